/- Package job: what its functions do, each once (contracts), of a task that is there, on a list of the tasks' rows. -/
import Derived.Test.YtcbpbgjngeemoaaProg
import Derived.Test.YtcbpbgjngeemoaaWords
import Derived.RegionTactic
import Derived.Deep.QuietTactic
import Derived.Deep.LoopGhost
import Derived.BigQuiet
import Derived.BigRegion
import Derived.Deep.RegionHeld3
set_option linter.unusedVariables false
set_option linter.unusedSimpArgs false
namespace Go.Proofs.Ytcbpbgjngeemoaa
open Go.RowKit

/-- A task's row. -/
structure JRow where
  active : Bool
  arrival : Int
  demand : Int
  done : Int
  cut : Bool
  period : Int
  wcet : Int
  waits : Int
  free : Int
  worked : Int
def jcells (x : JRow) : List Value := [.bool x.active, .int .i64 x.arrival, .int .i64 x.demand, .int .i64 x.done, .bool x.cut, .int .i64 x.period, .int .i64 x.wcet, .int .i64 x.waits, .int .i64 x.free, .int .i64 x.worked]
theorem jcells_len (x : JRow) : (jcells x).length = 10 := rfl
/-- Block b is a book with these rows, which lie in block g. -/
structure IsBook (w : World) (b g cap : Nat) (l : List JRow) : Prop where
  hb : w.heap[b]? = some (.cells #[.slice (some ⟨g, 0, none⟩) l.length cap] 103 (0, 0))
  ho : w.ownsRow 0 105 10 (.slice (some ⟨g, 0, none⟩) l.length cap) l.length (flat jcells l)
theorem IsBook.ne {w : World} {b g cap : Nat} {l : List JRow} (h : IsBook w b g cap l) : b ≠ g := by
  obtain ⟨cur, hg, _⟩ := own_blk h.ho
  intro e
  have h1 := h.hb
  rw [e, hg] at h1
  simp at h1
theorem IsBook.cell {w : World} {b g cap : Nat} {l : List JRow} (h : IsBook w b g cap l) {k : Nat} {x : JRow} (hk : l[k]? = some x) (j : Nat) (hj : j < 10) : w.cell? ⟨g, k * 10 + j, none⟩ = (jcells x)[j]? := by
  rw [← flat_get jcells_len l k j x hk hj]
  have : (flat jcells l)[k * 10 + j]? = some ((jcells x)[j]'(by rw [jcells_len]; exact hj)) := by rw [flat_get jcells_len l k j x hk hj]; exact List.getElem?_eq_getElem _
  rw [this]
  exact own_cell0 h.ho this
theorem IsBook.set {w : World} {b g cap : Nat} {l : List JRow} (h : IsBook w b g cap l) {k : Nat} {x x' : JRow} (hk : l[k]? = some x) (j : Nat) (v : Value) (hj : j < 10) (he : jcells x' = (jcells x).set j v) : IsBook (w.setCell ⟨g, k * 10 + j, none⟩ v) b g cap (l.set k x') := by
  have hlt := (List.getElem?_eq_some_iff.1 hk).1
  refine ⟨by rw [List.length_set]; exact blk_set_ne h.hb h.ne _ _, ?_⟩
  have := own_set h.ho (k * 10 + j) v (by omega)
  rw [flat_set jcells_len l k j x x' v hk hj he] at this
  rw [List.length_set]
  exact this
theorem IsBook.set0 {w : World} {b g cap : Nat} {l : List JRow} (h : IsBook w b g cap l) {k : Nat} {x x' : JRow} (hk : l[k]? = some x) (v : Value) (he : jcells x' = (jcells x).set 0 v) : IsBook (w.setCell ⟨g, k * 10, none⟩ v) b g cap (l.set k x') := h.set hk 0 v (by omega) he
theorem IsBook.of_heap {w w' : World} {b g cap : Nat} {l : List JRow} (h : IsBook w b g cap l) (e : w'.heap = w.heap) : IsBook w' b g cap l :=
  ⟨e ▸ h.hb, own_kept h.ho (S := NoB) ⟨rfl, rfl, rfl, by simp, fun _ _ _ => rfl⟩ (fun _ _ h => h) |> fun h2 => by unfold World.ownsRow at h2 ⊢; rw [e]; exact h2⟩
theorem IsBook.kept {w w' : World} {b g cap : Nat} {l : List JRow} {S : Nat → Prop} (h : IsBook w b g cap l) (k : Fr S w w') (hb : ¬ S b) (hg : ¬ S g) : IsBook w' b g cap l :=
  ⟨k.blk h.hb hb, own_kept h.ho k (fun x hx => by simp [Value.ownBlock] at hx; rw [← hx]; exact hg)⟩
theorem IsBook.drewN {w : World} {b g cap : Nat} {l : List JRow} (h : IsBook w b g cap l) (q : Nat) : IsBook (w.drewN q) b g cap l := ⟨h.hb, own_drewN h.ho q⟩

set_option maxRecDepth 100000 in
set_option maxHeartbeats 400000 in
theorem jobof_in {w : World} {b g cap : Nat} {l : List JRow} (H : IsBook w b g cap l) (k : Nat) (hk : k < l.length) (hl : l.length ≤ 1000) :
    Calls Try.prog 71 #[.pointer (some ⟨b, 0, none⟩), .int .i64 k] w fun e w' => e = .returned (.tuple #[.pointer (some ⟨g, k * 10, none⟩), .bool true]) ∧ w' = w := by
  have c0 : w.cell? ⟨b, 0, none⟩ = some (.slice (some ⟨g, 0, none⟩) l.length cap) := blk_cell H.hb 0
  have hk0 : ¬ ((k : Int) < 0) := by omega
  have hk1 : ¬ ((l.length : Int) ≤ (k : Int)) := by omega
  clear H
  go_enter Try.func71, Try.ntmps71
  go_wp2
  go_ret2
  exact ⟨rfl, rfl⟩
theorem IsBook.upd {w : World} {b g cap : Nat} {l : List JRow} {k : Nat} {x : JRow} (h : IsBook w b g cap (l.set k x)) (hk : k < l.length) (j : Nat) (v : Value) (x' : JRow) (hj : j < 10) (he : jcells x' = (jcells x).set j v) : IsBook (w.setCell ⟨g, k * 10 + j, none⟩ v) b g cap (l.set k x') := by
  have := h.set (k := k) (x := x) (x' := x') (by simp [hk]) j v hj he
  rwa [List.set_set] at this
theorem set_self {l : List JRow} {k : Nat} {x : JRow} (h : l[k]? = some x) : l.set k x = l := by
  obtain ⟨h1, h2⟩ := List.getElem?_eq_some_iff.1 h
  rw [← h2]
  exact List.set_getElem_self h1
theorem IsBook.state {w : World} {b g cap : Nat} {l : List JRow} {k : Nat} {x : JRow} (h : IsBook w b g cap l) (hk : l[k]? = some x) (a : Bool) (ar de dn : Int) (cu : Bool) :
    IsBook (((((w.setCell ⟨g, k * 10, none⟩ (.bool a)).setCell ⟨g, k * 10 + 1, none⟩ (.int .i64 ar)).setCell ⟨g, k * 10 + 2, none⟩ (.int .i64 de)).setCell ⟨g, k * 10 + 3, none⟩ (.int .i64 dn)).setCell ⟨g, k * 10 + 4, none⟩ (.bool cu)) b g cap
      (l.set k ⟨a, ar, de, dn, cu, x.period, x.wcet, x.waits, x.free, x.worked⟩) := by
  have hlt := (List.getElem?_eq_some_iff.1 hk).1
  have h0 : IsBook w b g cap (l.set k x) := by rw [set_self hk]; exact h
  have h1 := h0.upd hlt 0 (.bool a) ⟨a, x.arrival, x.demand, x.done, x.cut, x.period, x.wcet, x.waits, x.free, x.worked⟩ (by omega) rfl
  have h2 := h1.upd hlt 1 (.int .i64 ar) ⟨a, ar, x.demand, x.done, x.cut, x.period, x.wcet, x.waits, x.free, x.worked⟩ (by omega) rfl
  have h3 := h2.upd hlt 2 (.int .i64 de) ⟨a, ar, de, x.done, x.cut, x.period, x.wcet, x.waits, x.free, x.worked⟩ (by omega) rfl
  have h4 := h3.upd hlt 3 (.int .i64 dn) ⟨a, ar, de, dn, x.cut, x.period, x.wcet, x.waits, x.free, x.worked⟩ (by omega) rfl
  exact h4.upd hlt 4 (.bool cu) ⟨a, ar, de, dn, cu, x.period, x.wcet, x.waits, x.free, x.worked⟩ (by omega) rfl
theorem IsBook.rest {w : World} {b g cap : Nat} {l : List JRow} {k : Nat} {x : JRow} (h : IsBook w b g cap (l.set k x)) (hlt : k < l.length) (wa fr wo : Int) :
    IsBook (((w.setCell ⟨g, k * 10 + 7, none⟩ (.int .i64 wa)).setCell ⟨g, k * 10 + 8, none⟩ (.int .i64 fr)).setCell ⟨g, k * 10 + 9, none⟩ (.int .i64 wo)) b g cap
      (l.set k ⟨x.active, x.arrival, x.demand, x.done, x.cut, x.period, x.wcet, wa, fr, wo⟩) := by
  have h1 := h.upd hlt 7 (.int .i64 wa) ⟨x.active, x.arrival, x.demand, x.done, x.cut, x.period, x.wcet, wa, x.free, x.worked⟩ (by omega) rfl
  have h2 := h1.upd hlt 8 (.int .i64 fr) ⟨x.active, x.arrival, x.demand, x.done, x.cut, x.period, x.wcet, wa, fr, x.worked⟩ (by omega) rfl
  exact h2.upd hlt 9 (.int .i64 wo) ⟨x.active, x.arrival, x.demand, x.done, x.cut, x.period, x.wcet, wa, fr, wo⟩ (by omega) rfl
theorem book_eq {w : World} {b g cap : Nat} {l l' : List JRow} (h : IsBook w b g cap l) (e : l = l') : IsBook w b g cap l' := e ▸ h
/-- Is it a tick? -/
def tickB (now : Int) : Bool := decide (0 ≤ now) && decide (now < 9007199254740992)
set_option maxRecDepth 100000 in
set_option maxHeartbeats 400000 in
theorem tick_any {w : World} (now : Int) (h0 : -9223372036854775808 ≤ now) (h1 : now ≤ 9223372036854775807) :
    Calls Try.prog 72 #[.int .i64 now] w fun e w' => e = .returned (.bool (tickB now)) ∧ w' = w := by
  by_cases h : 0 ≤ now
  · have e := hid (show tickB now = (now / 9007199254740992 == 0) by unfold tickB; rw [Bool.eq_iff_iff]; simp; omega)
    go_enter Try.func72, Try.ntmps72
    go_wp2
    go_ret
    exact ⟨ret_eq (by rw [e.out]; rfl), rfl⟩
  · have e := hid (show tickB now = false by unfold tickB; simp; omega)
    go_enter Try.func72, Try.ntmps72
    go_wp2
    go_ret
    exact ⟨ret_eq (by rw [e.out]; rfl), rfl⟩

/-- What Ask does to a row. -/
def askJ (x : JRow) (n : Int) : Bool × JRow := if n < 1 ∨ 0 < x.waits then (false, x) else (true, { x with waits := n })
/-- When a job may come. -/
def nextJ (x : JRow) (now : Int) : Int := if x.waits = 0 ∨ x.active = true ∨ tickB now = false then -1 else max now x.free
/-- What Start does to a row. -/
def startJ (x : JRow) (now : Int) : Bool × JRow :=
  if tickB now = false ∨ nextJ x now ≠ now then (false, x)
  else (true, ⟨true, now, min x.waits x.wcet, 0, decide (x.wcet < x.waits), x.period, x.wcet, 0, now + x.period, -1⟩)
/-- What Work does to a row. -/
def workJ (x : JRow) (now : Int) : Bool × JRow :=
  if x.active = false ∨ x.done = x.demand ∨ x.worked = now ∨ tickB now = false then (false, x) else (true, { x with done := x.done + 1, worked := now })
/-- What Over does to a row. -/
def overJ (x : JRow) : Bool × JRow := if x.active = false then (false, x) else (true, ⟨false, 0, 0, 0, false, x.period, x.wcet, x.waits, x.free, x.worked⟩)

set_option maxRecDepth 100000 in
set_option maxHeartbeats 400000 in
theorem job_ask {w : World} {b g cap : Nat} {l : List JRow} (H : IsBook w b g cap l) {k : Nat} {x : JRow} (hk : l[k]? = some x) (hl : l.length ≤ 1000) (n : Int) :
    Calls Try.prog 24 #[.pointer (some ⟨b, 0, none⟩), .int .i64 k, .int .i64 n] w fun e w' => e = .returned (.bool (askJ x n).1) ∧ IsBook w' b g cap (l.set k (askJ x n).2) ∧ Fr (One g) w w' := by
  have hlt := (List.getElem?_eq_some_iff.1 hk).1
  have HO := hid (fun W (h : IsBook W b g cap l) => jobof_in h k hlt hl)
  have c7 : w.cell? ⟨g, k * 10 + 7, none⟩ = some (.int .i64 x.waits) := H.cell hk 7 (by omega)
  have f7 : w.frozen? ⟨g, k * 10 + 7, none⟩ = false := own_free H.ho _
  have HH := hid H
  have HK := hid hk
  clear H hk
  by_cases h1 : n < 1
  · have e := hid (show askJ x n = (false, x) by unfold askJ; rw [if_pos (.inl h1)])
    go_enter Try.func24, Try.ntmps24
    go_wp2_with (go_at_call 71; refine (HO.out _ HH.out).mono ?_; rintro e w' ⟨rfl, rfl⟩)
    go_ret
    rw [e.out, set_self HK.out]
    exact ⟨rfl, HH.out, Fr.refl _ _⟩
  · by_cases h2 : 0 < x.waits
    · have e := hid (show askJ x n = (false, x) by unfold askJ; rw [if_pos (.inr h2)])
      go_enter Try.func24, Try.ntmps24
      go_wp2_with (go_at_call 71; refine (HO.out _ HH.out).mono ?_; rintro e w' ⟨rfl, rfl⟩)
      go_ret
      rw [e.out, set_self HK.out]
      exact ⟨rfl, HH.out, Fr.refl _ _⟩
    · have e := hid (show askJ x n = (true, { x with waits := n }) by unfold askJ; rw [if_neg (by omega)])
      go_enter Try.func24, Try.ntmps24
      go_wp2_with (go_at_call 71; refine (HO.out _ HH.out).mono ?_; rintro e w' ⟨rfl, rfl⟩)
      go_ret
      rw [e.out]
      exact ⟨rfl, HH.out.set HK.out 7 _ (by omega) rfl, (Fr.refl (One g) _).one _ _⟩

set_option maxRecDepth 100000 in
set_option maxHeartbeats 400000 in
theorem job_next {w : World} {b g cap : Nat} {l : List JRow} (H : IsBook w b g cap l) {k : Nat} {x : JRow} (hk : l[k]? = some x) (hl : l.length ≤ 1000) (now : Int) (h0 : -9223372036854775808 ≤ now) (h1 : now ≤ 9223372036854775807) :
    Calls Try.prog 25 #[.pointer (some ⟨b, 0, none⟩), .int .i64 k, .int .i64 now] w fun e w' => e = .returned (.int .i64 (nextJ x now)) ∧ w' = w := by
  have hlt := (List.getElem?_eq_some_iff.1 hk).1
  have HO := hid (fun W (h : IsBook W b g cap l) => jobof_in h k hlt hl)
  have c0 : w.cell? ⟨g, k * 10, none⟩ = some (.bool x.active) := H.cell hk 0 (by omega)
  have c7 : w.cell? ⟨g, k * 10 + 7, none⟩ = some (.int .i64 x.waits) := H.cell hk 7 (by omega)
  have c8 : w.cell? ⟨g, k * 10 + 8, none⟩ = some (.int .i64 x.free) := H.cell hk 8 (by omega)
  have HH := hid H
  have HK := hid hk
  clear H hk
  by_cases h2 : x.waits = 0
  · have e := hid (show nextJ x now = -1 by unfold nextJ; rw [if_pos (.inl h2)])
    have h2' : (x.waits == 0) = true := by simpa using h2
    clear h2
    go_enter Try.func25, Try.ntmps25
    go_wp2_with (go_at_call 71; refine (HO.out _ HH.out).mono ?_; rintro e w' ⟨rfl, rfl⟩)
    go_ret
    exact ⟨ret_eq (by rw [e.out]; rfl), rfl⟩
  · have h2' : (x.waits == 0) = false := by simpa using h2
    cases h3 : x.active with
    | true =>
      have e := hid (show nextJ x now = -1 by unfold nextJ; rw [if_pos (.inr (.inl h3))])
      rw [h3] at c0
      clear h2 h3
      go_enter Try.func25, Try.ntmps25
      go_wp2_with (go_at_call 71; refine (HO.out _ HH.out).mono ?_; rintro e w' ⟨rfl, rfl⟩)
      go_ret
      exact ⟨ret_eq (by rw [e.out]; rfl), rfl⟩
    | false =>
      rw [h3] at c0
      cases h4 : tickB now with
      | false =>
        have e := hid (show nextJ x now = -1 by unfold nextJ; rw [if_pos (.inr (.inr h4))])
        have H4 := hid h4
        clear h2 h3 h4
        go_enter Try.func25, Try.ntmps25
        go_wp2_with (first | (go_at_call 71; refine (HO.out _ HH.out).mono ?_; rintro e w' ⟨rfl, rfl⟩) | (go_at_call 72; refine (tick_any now h0 h1).mono ?_; rw [H4.out]; rintro e w' ⟨rfl, rfl⟩))
        go_ret
        exact ⟨ret_eq (by rw [e.out]; rfl), rfl⟩
      | true =>
        have e := hid (show nextJ x now = max now x.free by unfold nextJ; rw [if_neg (by simp [h2, h3, h4])])
        have H4 := hid h4
        clear h2 h3 h4
        go_enter Try.func25, Try.ntmps25
        go_wp2_with (first | (go_at_call 71; refine (HO.out _ HH.out).mono ?_; rintro e w' ⟨rfl, rfl⟩) | (go_at_call 72; refine (tick_any now h0 h1).mono ?_; rw [H4.out]; rintro e w' ⟨rfl, rfl⟩))
        all_goals go_ret
        all_goals exact ⟨ret_eq (by rw [e.out]; exact int_eq (by omega)), rfl⟩

set_option maxRecDepth 100000 in
set_option maxHeartbeats 400000 in
theorem job_start_no {w : World} {b g cap : Nat} {l : List JRow} (H : IsBook w b g cap l) {k : Nat} {x : JRow} (hk : l[k]? = some x) (hl : l.length ≤ 1000) (now : Int) (h0 : -9223372036854775808 ≤ now) (h1 : now ≤ 9223372036854775807) (h2 : tickB now = false ∨ nextJ x now ≠ now) :
    Calls Try.prog 26 #[.pointer (some ⟨b, 0, none⟩), .int .i64 k, .int .i64 now] w fun e w' => e = .returned (.bool false) ∧ w' = w := by
  have hlt := (List.getElem?_eq_some_iff.1 hk).1
  have HO := hid (fun W (h : IsBook W b g cap l) => jobof_in h k hlt hl)
  have HX := hid (fun W (h : IsBook W b g cap l) => job_next h hk hl now h0 h1)
  have HH := hid H
  clear H hk
  cases h4 : tickB now with
  | false =>
    have H4 := hid h4
    clear h2 h4
    go_enter Try.func26, Try.ntmps26
    go_wp2_with (first | (go_at_call 71; refine (HO.out _ HH.out).mono ?_; rintro e w' ⟨rfl, rfl⟩) | (go_at_call 72; refine (tick_any now h0 h1).mono ?_; rw [H4.out]; rintro e w' ⟨rfl, rfl⟩))
    go_ret
    exact ⟨rfl, rfl⟩
  | true =>
    have H4 := hid h4
    have h5 : (nextJ x now != now) = true := by
      rcases h2 with h2 | h2
      · rw [h4] at h2; cases h2
      · simpa using h2
    clear h2 h4
    generalize nextJ x now = nx at *
    go_enter Try.func26, Try.ntmps26
    go_wp2_with (first | (go_at_call 71; refine (HO.out _ HH.out).mono ?_; rintro e w' ⟨rfl, rfl⟩) | (go_at_call 72; refine (tick_any now h0 h1).mono ?_; rw [H4.out]; rintro e w' ⟨rfl, rfl⟩) | (go_at_call 25; refine (HX.out _ HH.out).mono ?_; rintro e w' ⟨rfl, rfl⟩))
    go_ret
    exact ⟨rfl, rfl⟩

theorem startJ_yes {x : JRow} {now : Int} (h2 : tickB now = true) (h3 : nextJ x now = now) : startJ x now = (true, ⟨true, now, min x.waits x.wcet, 0, decide (x.wcet < x.waits), x.period, x.wcet, 0, now + x.period, -1⟩) := by
  unfold startJ; rw [if_neg (by simp [h2, h3])]
set_option maxRecDepth 100000 in
set_option maxHeartbeats 800000 in
theorem job_start_core {w : World} {b g cap : Nat} {l : List JRow} (H : IsBook w b g cap l) {k : Nat} {x : JRow} (hk : l[k]? = some x) (hl : l.length ≤ 1000) (now : Int) (h2 : tickB now = true) (h3 : nextJ x now = now) (hp0 : 0 ≤ x.period) (hp : x.period ≤ 1099511627776)
    (mn : Int) (hmin : x.waits ≤ x.wcet ∧ mn = x.waits ∨ x.wcet < x.waits ∧ mn = x.wcet) :
    Calls Try.prog 26 #[.pointer (some ⟨b, 0, none⟩), .int .i64 k, .int .i64 now] w fun e w' => e = .returned (.bool true) ∧ IsBook w' b g cap (l.set k ⟨true, now, mn, 0, decide (x.wcet < x.waits), x.period, x.wcet, 0, now + x.period, -1⟩) ∧ Fr (One g) w w' := by
  have hlt := (List.getElem?_eq_some_iff.1 hk).1
  have hn : 0 ≤ now ∧ now < 9007199254740992 := by simpa [tickB] using h2
  obtain ⟨hn0, hn1⟩ := hn
  have HO := hid (fun W (h : IsBook W b g cap l) => jobof_in h k hlt hl)
  have HX := hid (fun W (h : IsBook W b g cap l) => job_next h hk hl now (by omega) (by omega))
  have c0 : w.cell? ⟨g, k * 10, none⟩ = some (.bool x.active) := H.cell hk 0 (by omega)
  have c1 : w.cell? ⟨g, k * 10 + 1, none⟩ = some (.int .i64 x.arrival) := H.cell hk 1 (by omega)
  have c2 : w.cell? ⟨g, k * 10 + 2, none⟩ = some (.int .i64 x.demand) := H.cell hk 2 (by omega)
  have c3 : w.cell? ⟨g, k * 10 + 3, none⟩ = some (.int .i64 x.done) := H.cell hk 3 (by omega)
  have c4 : w.cell? ⟨g, k * 10 + 4, none⟩ = some (.bool x.cut) := H.cell hk 4 (by omega)
  have c5 : w.cell? ⟨g, k * 10 + 5, none⟩ = some (.int .i64 x.period) := H.cell hk 5 (by omega)
  have c6 : w.cell? ⟨g, k * 10 + 6, none⟩ = some (.int .i64 x.wcet) := H.cell hk 6 (by omega)
  have c7 : w.cell? ⟨g, k * 10 + 7, none⟩ = some (.int .i64 x.waits) := H.cell hk 7 (by omega)
  have c8 : w.cell? ⟨g, k * 10 + 8, none⟩ = some (.int .i64 x.free) := H.cell hk 8 (by omega)
  have c9 : w.cell? ⟨g, k * 10 + 9, none⟩ = some (.int .i64 x.worked) := H.cell hk 9 (by omega)
  have f0 : w.frozen? ⟨g, k * 10, none⟩ = false := own_free H.ho _
  have f1 : ∀ j, w.frozen? ⟨g, k * 10 + j, none⟩ = false := fun j => own_free H.ho _
  have hfin := hid ((H.state hk true now mn 0 (decide (x.wcet < x.waits))).rest hlt 0 (now + x.period) (-1))
  have hfr := hid ((((((((Fr.refl (One g) w).one (k * 10) (.bool true)).one (k * 10 + 1) (.int .i64 now)).one (k * 10 + 2) (.int .i64 mn)).one (k * 10 + 3) (.int .i64 0)).one (k * 10 + 4) (.bool (decide (x.wcet < x.waits)))).one (k * 10 + 7) (.int .i64 0)).one (k * 10 + 8) (.int .i64 (now + x.period)) |>.one (k * 10 + 9) (.int .i64 (-1)))
  have HH := hid H
  have H4 := hid h2
  have H3 := hid h3
  clear H hk h2 h3
  rcases hmin with ⟨hm, rfl⟩ | ⟨hm, rfl⟩
  · have hm2 : ¬ x.wcet < x.waits := by omega
    have hm3 : min x.waits x.wcet = x.waits := by omega
    go_enter Try.func26, Try.ntmps26
    go_wp2_with (first | (go_at_call 71; refine (HO.out _ HH.out).mono ?_; rintro e w' ⟨rfl, rfl⟩) | (go_at_call 72; refine (tick_any now (by omega) (by omega)).mono ?_; rw [H4.out]; rintro e w' ⟨rfl, rfl⟩) | (go_at_call 25; refine (HX.out _ HH.out).mono ?_; rw [H3.out]; rintro e w' ⟨rfl, rfl⟩))
    go_region
    all_goals go_wp2
    all_goals go_ret
    exact ⟨rfl, hfin.out.drewN 1, hfr.out.drew⟩
  · have hm2 : x.wcet < x.waits := by omega
    have hm3 : min x.waits x.wcet = x.wcet := by omega
    rw [decide_eq_true hm2] at hfin hfr ⊢
    go_enter Try.func26, Try.ntmps26
    go_wp2_with (first | (go_at_call 71; refine (HO.out _ HH.out).mono ?_; rintro e w' ⟨rfl, rfl⟩) | (go_at_call 72; refine (tick_any now (by omega) (by omega)).mono ?_; rw [H4.out]; rintro e w' ⟨rfl, rfl⟩) | (go_at_call 25; refine (HX.out _ HH.out).mono ?_; rw [H3.out]; rintro e w' ⟨rfl, rfl⟩))
    go_region
    all_goals go_wp2
    all_goals go_ret
    exact ⟨rfl, hfin.out.drewN 1, hfr.out.drew⟩
theorem job_start {w : World} {b g cap : Nat} {l : List JRow} (H : IsBook w b g cap l) {k : Nat} {x : JRow} (hk : l[k]? = some x) (hl : l.length ≤ 1000) (now : Int) (h0 : -9223372036854775808 ≤ now) (h1 : now ≤ 9223372036854775807) (hp0 : 0 ≤ x.period) (hp : x.period ≤ 1099511627776) :
    Calls Try.prog 26 #[.pointer (some ⟨b, 0, none⟩), .int .i64 k, .int .i64 now] w fun e w' => e = .returned (.bool (startJ x now).1) ∧ IsBook w' b g cap (l.set k (startJ x now).2) ∧ Fr (One g) w w' := by
  by_cases h : tickB now = true ∧ nextJ x now = now
  · have e := startJ_yes h.1 h.2
    rw [e]
    refine (job_start_core H hk hl now h.1 h.2 hp0 hp (min x.waits x.wcet) (by omega)).mono fun e w' ⟨he, hb, hf⟩ => ⟨he, hb, hf⟩
  · have h' : tickB now = false ∨ nextJ x now ≠ now := by
      cases ht : tickB now with
      | false => exact .inl rfl
      | true => exact .inr (fun hn => h ⟨ht, hn⟩)
    have e : startJ x now = (false, x) := by unfold startJ; rw [if_pos h']
    rw [e, set_self hk]
    exact (job_start_no H hk hl now h0 h1 h').mono fun e w' ⟨he, hw⟩ => ⟨he, hw ▸ H, hw ▸ Fr.refl _ _⟩

set_option maxRecDepth 100000 in
set_option maxHeartbeats 400000 in
theorem job_over {w : World} {b g cap : Nat} {l : List JRow} (H : IsBook w b g cap l) {k : Nat} {x : JRow} (hk : l[k]? = some x) (hl : l.length ≤ 1000) :
    Calls Try.prog 29 #[.pointer (some ⟨b, 0, none⟩), .int .i64 k] w fun e w' => e = .returned (.bool (overJ x).1) ∧ IsBook w' b g cap (l.set k (overJ x).2) ∧ Fr (One g) w w' := by
  have hlt := (List.getElem?_eq_some_iff.1 hk).1
  have HO := hid (fun W (h : IsBook W b g cap l) => jobof_in h k hlt hl)
  have c0 : w.cell? ⟨g, k * 10, none⟩ = some (.bool x.active) := H.cell hk 0 (by omega)
  have c1 : w.cell? ⟨g, k * 10 + 1, none⟩ = some (.int .i64 x.arrival) := H.cell hk 1 (by omega)
  have c2 : w.cell? ⟨g, k * 10 + 2, none⟩ = some (.int .i64 x.demand) := H.cell hk 2 (by omega)
  have c3 : w.cell? ⟨g, k * 10 + 3, none⟩ = some (.int .i64 x.done) := H.cell hk 3 (by omega)
  have c4 : w.cell? ⟨g, k * 10 + 4, none⟩ = some (.bool x.cut) := H.cell hk 4 (by omega)
  have f0 : w.frozen? ⟨g, k * 10, none⟩ = false := own_free H.ho _
  have f1 : ∀ j, w.frozen? ⟨g, k * 10 + j, none⟩ = false := fun j => own_free H.ho _
  have hfin := hid (H.state hk false 0 0 0 false)
  have hfr := hid ((((((Fr.refl (One g) w).one (k * 10) (.bool false)).one (k * 10 + 1) (.int .i64 0)).one (k * 10 + 2) (.int .i64 0)).one (k * 10 + 3) (.int .i64 0)).one (k * 10 + 4) (.bool false))
  have HH := hid H
  have HK := hid hk
  clear H hk
  cases h3 : x.active with
  | true =>
    have e := hid (show overJ x = (true, ⟨false, 0, 0, 0, false, x.period, x.wcet, x.waits, x.free, x.worked⟩) by unfold overJ; rw [if_neg (by simp [h3])])
    rw [h3] at c0
    clear h3
    go_enter Try.func29, Try.ntmps29
    go_wp2_with (go_at_call 71; refine (HO.out _ HH.out).mono ?_; rintro e w' ⟨rfl, rfl⟩)
    go_ret
    rw [e.out]
    exact ⟨rfl, hfin.out, hfr.out⟩
  | false =>
    have e := hid (show overJ x = (false, x) by unfold overJ; rw [if_pos h3])
    rw [h3] at c0
    clear h3
    go_enter Try.func29, Try.ntmps29
    go_wp2_with (go_at_call 71; refine (HO.out _ HH.out).mono ?_; rintro e w' ⟨rfl, rfl⟩)
    go_ret
    rw [e.out, set_self HK.out]
    exact ⟨rfl, HH.out, Fr.refl _ _⟩

/-- The state of a job, as a value. -/
def stateV (x : JRow) : Value := .agg #[.bool x.active, .int .i64 x.arrival, .int .i64 x.demand, .int .i64 x.done, .bool x.cut]
set_option maxRecDepth 100000 in
set_option maxHeartbeats 400000 in
theorem job_state {w : World} {b g cap : Nat} {l : List JRow} (H : IsBook w b g cap l) {k : Nat} {x : JRow} (hk : l[k]? = some x) (hl : l.length ≤ 1000) :
    Calls Try.prog 27 #[.pointer (some ⟨b, 0, none⟩), .int .i64 k] w fun e w' => e = .returned (stateV x) ∧ Below w.heap.size w w' := by
  have hlt := (List.getElem?_eq_some_iff.1 hk).1
  have HO := hid (fun W (h : IsBook W b g cap l) => jobof_in h k hlt hl)
  have hlg : g < w.heap.size := by obtain ⟨cur, hg, _⟩ := own_blk H.ho; exact blk_lt hg
  have c0 : w.cell? ⟨g, k * 10, none⟩ = some (.bool x.active) := H.cell hk 0 (by omega)
  have c1 : w.cell? ⟨g, k * 10 + 1, none⟩ = some (.int .i64 x.arrival) := H.cell hk 1 (by omega)
  have c2 : w.cell? ⟨g, k * 10 + 2, none⟩ = some (.int .i64 x.demand) := H.cell hk 2 (by omega)
  have c3 : w.cell? ⟨g, k * 10 + 3, none⟩ = some (.int .i64 x.done) := H.cell hk 3 (by omega)
  have c4 : w.cell? ⟨g, k * 10 + 4, none⟩ = some (.bool x.cut) := H.cell hk 4 (by omega)
  have HH := hid (fun (o : Obj) => H.kept ((Fr.refl NoB w).alloc o) (fun h => h) (fun h => h))
  clear H hk
  go_enter Try.func27, Try.ntmps27
  go_wp2_with (go_at_call 71; refine (HO.out _ (HH.out _)).mono ?_; rintro e w' ⟨rfl, rfl⟩)
  exact bodyPost_ret (v := stateV x) (by simp [results, Try.results27, go_sem, stateV]) rfl ⟨rfl, below_new (Below.refl _ _) _⟩

set_option maxRecDepth 100000 in
set_option maxHeartbeats 800000 in
theorem job_work {w : World} {b g cap : Nat} {l : List JRow} (H : IsBook w b g cap l) {k : Nat} {x : JRow} (hk : l[k]? = some x) (hl : l.length ≤ 1000) (now : Int) (h0 : -9223372036854775808 ≤ now) (h1 : now ≤ 9223372036854775807) (hd0 : 0 ≤ x.done) (hd1 : x.done ≤ 9007199254740992) :
    Calls Try.prog 28 #[.pointer (some ⟨b, 0, none⟩), .int .i64 k, .int .i64 now] w fun e w' => e = .returned (.bool (workJ x now).1) ∧ IsBook w' b g cap (l.set k (workJ x now).2) ∧ Fr (One g) w w' := by
  have hlt := (List.getElem?_eq_some_iff.1 hk).1
  have HO := hid (fun W (h : IsBook W b g cap l) => jobof_in h k hlt hl)
  have c0 : w.cell? ⟨g, k * 10, none⟩ = some (.bool x.active) := H.cell hk 0 (by omega)
  have c2 : w.cell? ⟨g, k * 10 + 2, none⟩ = some (.int .i64 x.demand) := H.cell hk 2 (by omega)
  have c3 : w.cell? ⟨g, k * 10 + 3, none⟩ = some (.int .i64 x.done) := H.cell hk 3 (by omega)
  have c9 : w.cell? ⟨g, k * 10 + 9, none⟩ = some (.int .i64 x.worked) := H.cell hk 9 (by omega)
  have f1 : ∀ j, w.frozen? ⟨g, k * 10 + j, none⟩ = false := fun j => own_free H.ho _
  have hs := set_self hk
  have hfin := hid (fun q => (((show IsBook w b g cap (l.set k x) by rw [hs]; exact H).drewN q).upd hlt 3 (.int .i64 (x.done + 1)) ⟨x.active, x.arrival, x.demand, x.done + 1, x.cut, x.period, x.wcet, x.waits, x.free, x.worked⟩ (by omega) rfl).upd hlt 9 (.int .i64 now) ⟨x.active, x.arrival, x.demand, x.done + 1, x.cut, x.period, x.wcet, x.waits, x.free, now⟩ (by omega) rfl)
  have HS := hid hs
  have HH := hid H
  clear H hk hs
  by_cases h : workJ x now = (false, x)
  · rw [h, HS.out]
    cases h3 : x.active with
    | false =>
      rw [h3] at c0
      clear h h3 hfin
      go_enter Try.func28, Try.ntmps28
      go_wp2_with (go_at_call 71; refine (HO.out _ HH.out).mono ?_; rintro e w' ⟨rfl, rfl⟩)
      go_quiet (fail)
      go_wp2
      go_ret
      exact ⟨rfl, HH.out.drewN _, (Fr.refl _ _).drewN _⟩
    | true =>
      rw [h3] at c0
      by_cases h5 : x.done = x.demand
      · have h5' : (x.done == x.demand) = true := by simpa using h5
        clear h h3 hfin h5
        go_enter Try.func28, Try.ntmps28
        go_wp2_with (go_at_call 71; refine (HO.out _ HH.out).mono ?_; rintro e w' ⟨rfl, rfl⟩)
        go_quiet (fail)
        go_wp2
        go_ret
        exact ⟨rfl, HH.out.drewN _, (Fr.refl _ _).drewN _⟩
      · have h5' : (x.done == x.demand) = false := by simpa using h5
        by_cases h6 : x.worked = now
        · have h6' : (x.worked == now) = true := by simpa using h6
          clear h h3 hfin h5 h6
          go_enter Try.func28, Try.ntmps28
          go_wp2_with (go_at_call 71; refine (HO.out _ HH.out).mono ?_; rintro e w' ⟨rfl, rfl⟩)
          go_quiet (fail)
          go_wp2
          go_ret
          exact ⟨rfl, HH.out.drewN _, (Fr.refl _ _).drewN _⟩
        · have h6' : (x.worked == now) = false := by simpa using h6
          have h4 : tickB now = false := by
            cases ht : tickB now with
            | false => rfl
            | true => unfold workJ at h; rw [if_neg (by simp [h3, h5, h6, ht])] at h; cases h
          have H4 := hid (fun W => by have := tick_any (w := W) now h0 h1; rw [h4] at this; exact this)
          clear h h3 hfin h5 h6 h4
          go_enter Try.func28, Try.ntmps28
          go_wp2_with (go_at_call 71; refine (HO.out _ HH.out).mono ?_; rintro e w' ⟨rfl, rfl⟩)
          go_quiet ((go_at_call 72; exact Calls.quiet_of_same (H4.out _)))
          go_wp2
          go_ret
          exact ⟨rfl, HH.out.drewN _, (Fr.refl _ _).drewN _⟩
  · have hcond : ¬ (x.active = false ∨ x.done = x.demand ∨ x.worked = now ∨ tickB now = false) := fun hc => h (by unfold workJ; rw [if_pos hc])
    have e := hid (show workJ x now = (true, { x with done := x.done + 1, worked := now }) by unfold workJ; rw [if_neg hcond])
    have h3 : x.active = true := by
      cases hx : x.active with
      | true => rfl
      | false => exact absurd (.inl hx) hcond
    have h5' : (x.done == x.demand) = false := by
      have : ¬ x.done = x.demand := fun hx => hcond (.inr (.inl hx))
      simpa using this
    have h6' : (x.worked == now) = false := by
      have : ¬ x.worked = now := fun hx => hcond (.inr (.inr (.inl hx)))
      simpa using this
    have h4 : tickB now = true := by
      cases ht : tickB now with
      | true => rfl
      | false => exact absurd (.inr (.inr (.inr ht))) hcond
    have H4 := hid (fun W => by have := tick_any (w := W) now h0 h1; rw [h4] at this; exact this)
    rw [h3] at c0
    clear h hcond h3 h4
    go_enter Try.func28, Try.ntmps28
    go_wp2_with (go_at_call 71; refine (HO.out _ HH.out).mono ?_; rintro e w' ⟨rfl, rfl⟩)
    go_quiet ((go_at_call 72; exact Calls.quiet_of_same (H4.out _)))
    go_wp2
    go_ret
    rw [e.out]
    exact ⟨rfl, hfin.out _, (((Fr.refl (One g) _).drewN _).one _ _).one _ _⟩
end Go.Proofs.Ytcbpbgjngeemoaa
