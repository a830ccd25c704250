/- Joined: Parts. -/
import Derived.RangeFuncNested
import Derived.RangeFuncBound
import Derived.RangeFuncCalls
import Derived.RangeFuncLeaves
import Derived.RangeFuncBox
import Derived.Shelf.Abstract
import Derived.OwnWalkIn
import Derived.TacticsInMore
import Derived.LoopNIn
import Derived.LoopIn
import Derived.Test.YtppildaahmlfmaaQ09
set_option linter.unusedVariables false
set_option linter.unusedSimpArgs false
/- analysis.parts: the iterator over a plan's pieces, task by task (contracts). -/
set_option linter.unusedVariables false
set_option linter.unusedSimpArgs false
namespace Go.Proofs.Ytppildaahmlfmaa
open Go.RowKit Go.Shelf
attribute [local go_sem] Oper.semAt_some

/-- A part's value. -/
def ptV (x : Pt) : Value := .agg #[.int .i64 x.p.core, .int .i64 x.p.bud, .int .i64 x.p.dl, .int .i64 x.p.prio, .bool x.p.tight, .int .i64 x.task, .int .i64 x.k]
/-- A part of a plan. -/
abbrev PtOf (P : Pl) := { x : Pt // x ∈ partsOf P }
def ptA {P : Pl} (x : PtOf P) : Array Value := #[ptV x.1]
def ptL (P : Pl) : List (PtOf P) := (partsOf P).attach
theorem ptL_length (P : Pl) : (ptL P).length = (partsOf P).length := by simp [ptL]
theorem parts_split {P : Pl} {i : Nat} {l : List Pc} (hl : P[i]? = some l) : ∃ R, partsOf P = partsOf (P.take i) ++ (ptsOf i l ++ R) := by
  obtain ⟨R, hR⟩ := parts_prefix (i + 1) P
  rw [parts_take_succ hl] at hR
  exact ⟨R, by rw [← hR, List.append_assoc]⟩
theorem pts_get {i k : Nat} {l : List Pc} {p : Pc} (h : l[k]? = some p) : (ptsOf i l)[k]? = some ⟨p, i, k⟩ := by
  unfold ptsOf
  rw [List.getElem?_mapIdx, h]
  rfl
theorem parts_at {P : Pl} {i k : Nat} {l : List Pc} {p : Pc} (hl : P[i]? = some l) (hp : l[k]? = some p) : (partsOf P)[(partsOf (P.take i)).length + k]? = some ⟨p, i, k⟩ := by
  obtain ⟨R, hR⟩ := parts_split hl
  have hk := (List.getElem?_eq_some_iff.1 hp).1
  rw [hR, List.getElem?_append_right (by omega), Nat.add_sub_cancel_left, List.getElem?_append_left (by rw [pts_length]; exact hk)]
  exact pts_get hp
theorem parts_len_succ {P : Pl} {i : Nat} {l : List Pc} (hl : P[i]? = some l) : (partsOf (P.take (i + 1))).length = (partsOf (P.take i)).length + l.length := by
  rw [parts_take_succ hl, List.length_append, pts_length]
theorem ptL_at {P : Pl} {i k : Nat} {l : List Pc} {p : Pc} (hl : P[i]? = some l) (hp : l[k]? = some p) : ∃ x : PtOf P, x.1 = ⟨p, i, k⟩ ∧ (ptL P).take ((partsOf (P.take i)).length + k + 1) = (ptL P).take ((partsOf (P.take i)).length + k) ++ [x] ∧ (partsOf (P.take i)).length + k < (partsOf P).length := by
  have h := parts_at hl hp
  have hlt := (List.getElem?_eq_some_iff.1 h).1
  obtain ⟨x, hx⟩ : ∃ x, (ptL P)[(partsOf (P.take i)).length + k]? = some x := ⟨_, List.getElem?_eq_getElem (by rw [ptL_length]; exact hlt)⟩
  refine ⟨x, ?_, take_next hx, hlt⟩
  have : ((ptL P)[(partsOf (P.take i)).length + k]?).map Subtype.val = (partsOf P)[(partsOf (P.take i)).length + k]? := by
    rw [← List.getElem?_map]
    unfold ptL
    rw [List.attach_map_subtype_val]
  rw [hx, h] at this
  simpa using this
section
variable {w : World}
set_option maxRecDepth 100000 in
theorem parts_any (A : Option Addr) (n cap : Nat) : Calls Try.prog 36 #[.slice A n cap] w fun e w' => e = .returned (.func (.func 53) #[] #[.pointer (some ⟨w.heap.size, 0, none⟩)]) ∧ w' = w.alloc (.cells #[.slice A n cap] 25) := by
  go_enter Try.func36, Try.ntmps36
  go_wp2_with fail
  go_ret
  exact ⟨rfl, rfl⟩
set_option maxRecDepth 100000 in
set_option maxHeartbeats 4000000 in
/-- The iterator's closure: whatever the loop's body, if it keeps what lay in w0. -/
theorem parts1_in (N : Nat) (hN : 1 ≤ N) (l Bs : Nat) (w0 : World) (P : Pl) (A : Option Addr) (n cap : Nat) (hI : IsPlan w0 (.slice A n cap) P) (J Jx : List (PtOf P) → World → Prop) (W : World) (hW0 : Below w0.heap.size w0 W) (hJa : AbidesFrom W.heap.size J)
    (hY : ∀ pre x W, J pre W → pre.length < (partsOf P).length → YieldAt Fence.wide (N - 1) Try.prog l (ptA x) W fun e W' =>
      (e = .returned (.bool true) ∧ J (pre ++ [x]) W' ∧ Below w0.heap.size W W') ∨ (e = .returned (.bool false) ∧ Jx (pre ++ [x]) W'))
    (hBs : W.cell? ⟨Bs, 0, none⟩ = some (.slice A n cap)) (h0 : J [] W) :
    CallsIn Fence.wide N Try.prog 53 #[.func (.yield l) #[] #[], .pointer (some ⟨Bs, 0, none⟩)] W fun e W' => (∃ v, e = .returned v) ∧ (J (ptL P) W' ∨ ∃ pre, pre <+: ptL P ∧ Jx pre W') := by
  refine callsIn_of_wp Try.func53 rfl trivial ?_ rfl
  simp only [Try.ntmps53, List.size_toArray, List.length_cons, List.length_nil, Nat.reduceAdd, Nat.reduceSub, Array.replicate_succ, Array.replicate_zero, List.push_toArray, List.append_toArray, List.nil_append, List.cons_append]
  have HI := hid hI
  have hn := hI.rows.len
  have HN := hid hn
  have hnm : n ≤ 9223372036854775807 := by have := hI.rows.room; unfold maxLen at this; omega
  clear hI hn
  gi_wp2
  gi_loopw [9] (fun i wr => ∃ k : Nat, k ≤ n ∧ i = .int .i64 k ∧ J ((ptL P).take (partsOf (P.take k)).length) wr ∧ Below w0.heap.size w0 wr ∧ W.heap.size ≤ wr.heap.size) (fun i _ => n - (intOf i).toNat)
  case atStart => exact ⟨0, Nat.zero_le _, rfl, by simpa [partsOf] using h0, hW0, Nat.le_refl _⟩
  case round =>
    obtain ⟨k, hk, rfl, hJs, hnx, hwsz⟩ := hrel
    by_cases hlt : k < n
    · obtain ⟨pl, hpl⟩ : ∃ pl, P[k]? = some pl := ⟨_, List.getElem?_eq_getElem (by have := HN.out; omega)⟩
      obtain ⟨b, o, cs, hA, hbl, _, hc, u, hu, hr⟩ := HI.out.rows.at hpl
      subst hA
      subst hu
      obtain ⟨A2, c2, hu2, hu3, hu4⟩ := hr.shape
      obtain ⟨m, hm⟩ : ∃ m, m = pl.length := ⟨_, rfl⟩
      rw [← hm] at hu2
      subst hu2
      have hmm : m ≤ 9223372036854775807 := by unfold maxLen at hu4; omega
      have m0 : wr.cell? ⟨b, o + k, none⟩ = some (.slice A2 m c2) := (hnx.cell (p := ⟨b, o + k, none⟩) hbl).trans (by simpa using hc 0 _ rfl)
      have HPL := hid hpl
      have HM := hid hm
      have HR := hid hr
      have HJS := hid hJs
      have HNX := hid hnx
      have HSZ := hid hwsz
      clear hpl hm hr hc hbl hu3 hu4 hJs hnx hwsz
      gi_wp2
      obtain ⟨wo, hwo⟩ : ∃ wo, wo = wr := ⟨_, rfl⟩
      subst hwo
      gi_loopw [16] (fun i wr => ∃ j : Nat, j ≤ m ∧ i = .int .i64 j ∧ J ((ptL P).take ((partsOf (P.take k)).length + j)) wr ∧ Below w0.heap.size w0 wr ∧ W.heap.size ≤ wr.heap.size) (fun i _ => m - (intOf i).toNat)
      case atStart => exact ⟨0, Nat.zero_le _, rfl, HJS.out, HNX.out, HSZ.out⟩
      case round =>
        obtain ⟨j, hj, rfl, hJs, hnx, hwsz⟩ := hrel
        by_cases hlt2 : j < m
        · obtain ⟨p, hp⟩ : ∃ p, pl[j]? = some p := ⟨_, List.getElem?_eq_getElem (by have := HM.out; omega)⟩
          obtain ⟨b2, o2, cs2, hA2, hbl2, _, hc2, hr2⟩ := HR.out.at hp
          subst hA2
          have hr2' : cs2 = [.int .i64 p.core, .int .i64 p.bud, .int .i64 p.dl, .int .i64 p.prio, .bool p.tight] := hr2
          subst hr2'
          obtain ⟨x, hx1, hx2, hx3⟩ := ptL_at HPL.out hp
          have hn0 : w0.heap.size ≤ wr.heap.size := hnx.size
          have hJ2 : J ((ptL P).take ((partsOf (P.take k)).length + j)) (wr.alloc (.cells #[.int .i64 p.core, .int .i64 p.bud, .int .i64 p.dl, .int .i64 p.prio, .bool p.tight] 41)) := hJa _ _ _ none hJs (World.grownBy_alloc wr _ none) (fun r e => by cases e)
          obtain ⟨fn, tmps, assign, body, hy, hR⟩ := hY _ x _ hJ2 (by rw [List.length_take, ptL_length]; omega)
          have y0 := (hnx.cell (p := ⟨b2, o2 + j * 5, none⟩) hbl2).trans (by simpa using hc2 0 _ rfl)
          have y1 := (hnx.cell (p := ⟨b2, o2 + j * 5 + 1, none⟩) hbl2).trans (hc2 1 _ rfl)
          have y2 := (hnx.cell (p := ⟨b2, o2 + j * 5 + 2, none⟩) hbl2).trans (hc2 2 _ rfl)
          have y3 := (hnx.cell (p := ⟨b2, o2 + j * 5 + 3, none⟩) hbl2).trans (hc2 3 _ rfl)
          have y4 := (hnx.cell (p := ⟨b2, o2 + j * 5 + 4, none⟩) hbl2).trans (hc2 4 _ rfl)
          unfold ptA ptV at hy
          rw [hx1] at hy
          have HTK := hid hx2
          have HBB := hid (hnx.trans ((Below.refl w0.heap.size wr).alloc hn0 (.cells #[.int .i64 p.core, .int .i64 p.bud, .int .i64 p.dl, .int .i64 p.prio, .bool p.tight] 41)))
          obtain ⟨pc, pb, pd, pp, ti⟩ := p
          simp only at y0 y1 y2 y3 y4 hy
          clear hp hc2 hr2 hx1 hx2 hx3 hJ2 hJs hnx hbl2
          gi_wp2
          refine hR.mono ?_
          rintro e W3 (⟨rfl, hJ3, hk3⟩ | ⟨rfl, hJx3⟩)
          · have hsz3 : W.heap.size ≤ W3.heap.size := by have := hk3.size; simp at this; omega
            rw [← HTK.out] at hJ3
            have hbb := HBB.out.trans hk3
            clear hk3
            gi_wp2
            go_roundw
            case rel => exact ⟨j + 1, by omega, by go_num, hJ3, hbb, hsz3⟩
            case measure => simp [intOf]; omega
          · gi_wp2
            refine bodyPost_ret (results_none rfl _ _ _) rfl ?_
            exact ⟨⟨_, rfl⟩, .inr ⟨_, by rw [← HTK.out]; exact List.take_prefix _ _, hJx3⟩⟩
        · obtain rfl : j = m := by omega
          have hls := parts_len_succ HPL.out
          rw [HM.out, ← hls] at hJs
          clear hls
          gi_wp2
          go_roundw
          case rel => exact ⟨k + 1, by omega, by go_num, hJs, hnx, hwsz⟩
          case measure => simp [intOf]; omega
    · obtain rfl : k = n := by omega
      have ht : P.take k = P := by rw [HN.out]; exact List.take_length
      rw [ht, ← ptL_length, List.take_length] at hJs
      gi_wp2
      go_end0
      exact ⟨⟨_, rfl⟩, .inl hJs⟩
/-- The iterator over a plan gives its parts, in order. -/
theorem parts_stops (N : Nat) (hN : 1 ≤ N) (Bs : Nat) (w0 : World) (P : Pl) (A : Option Addr) (n cap : Nat) (hI : IsPlan w0 (.slice A n cap) P) (w : World) (hB : Below w0.heap.size w0 w) (hBs : Bs < w.heap.size) (hc : w.cell? ⟨Bs, 0, none⟩ = some (.slice A n cap)) :
    SeqStopsK Fence.wide N Try.prog 53 #[.pointer (some ⟨Bs, 0, none⟩)] (ptA (P := P)) (Below w0.heap.size) (fun ys => ys = ptL P) (fun pre => pre <+: ptL P) (partsOf P).length w := fun l J Jx W hW hJa hJxa hY h0 => by
  have hc' := (hW.cell (p := ⟨Bs, 0, none⟩) hBs).trans hc
  refine (parts1_in N hN l Bs w0 P A n cap hI J Jx W (hB.trans (hW.mono hB.size)) hJa hY hc' h0).mono ?_
  rintro e W' ⟨he, hj | ⟨pre, hp, hj⟩⟩
  · exact ⟨he, .inl ⟨_, rfl, hj⟩⟩
  · exact ⟨he, .inr ⟨pre, hp, hj⟩⟩
end
end Go.Proofs.Ytppildaahmlfmaa
