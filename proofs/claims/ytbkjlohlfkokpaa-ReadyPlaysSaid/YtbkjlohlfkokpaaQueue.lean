/- Package ready: the queue; New, First, All, Level, Remove, Add (contracts). -/
import Derived.Test.YtbkjlohlfkokpaaRank
import Derived.Test.YtbkjlohlfkokpaaLockPlain
set_option linter.unusedVariables false
set_option linter.unusedSimpArgs false
namespace Go.Proofs.Ytbkjlohlfkokpaa
open Go.RowKit Go.Maps

/-- The heap's list has just those that are there, by their keys. -/
structure RqInv (f : Int → Option Rk) (L : List (Int × Int)) : Prop where
  fwd : ∀ p ∈ L, ∃ r, f p.1 = some r ∧ p.2 = r.key p.1
  bwd : ∀ t r, f t = some r → t ∈ fsts L ∧ 0 ≤ t ∧ t < 24 ∧ r.Ok
structure QAt (w : World) (base q h bm n : Nat) (policy : Int) (Qh : Nat → Prop) (T : Nat) (f : Int → Option Rk) (L : List (Int × Int)) : Prop where
  hx : w.heap[q]? = some (.cells #[.int .i64 policy, .pointer (some ⟨h, 0, none⟩), .map (some bm)] 114 (0, 0))
  heap : IsHeap w base h Qh 24 T L
  map : MapR w bm n f
  nT : n ≤ T
  bq : base ≤ q
  bbm : base ≤ bm
  nq : ¬ Qh q
  nbm : ¬ Qh bm
  ne : q ≠ bm
  inv : RqInv f L
def QSet (q bm : Nat) (Qh : Nat → Prop) : Nat → Prop := fun k => k = q ∨ k = bm ∨ Qh k
/-- A queue. -/
def IsQ (w : World) (base q : Nat) (Q : Nat → Prop) (policy : Int) (T : Nat) (f : Int → Option Rk) (L : List (Int × Int)) : Prop := ∃ h bm n Qh, QAt w base q h bm n policy Qh T f L ∧ Q = QSet q bm Qh
def QBehind (w : World) (base q : Nat) (Q : Nat → Prop) (policy : Int) (T : Nat) (f : Int → Option Rk) (L : List (Int × Int)) (w' : World) : Prop := ∃ Q', IsQ w' base q Q' policy T f L ∧ Fr Q w w' ∧ ∀ k, Q' k → Q k ∨ w.heap.size ≤ k
section
variable {w w' : World} {base q h bm n : Nat} {policy : Int} {Qh Q : Nat → Prop} {T T' : Nat} {f f' : Int → Option Rk} {L L' : List (Int × Int)}
theorem QAt.lt (H : QAt w base q h bm n policy Qh T f L) : ∀ k, QSet q bm Qh k → base ≤ k ∧ k < w.heap.size := by
  intro k hk
  rcases hk with rfl | rfl | hk
  · exact ⟨H.bq, blk_lt H.hx⟩
  · exact ⟨H.bbm, H.map.lt⟩
  · exact H.heap.lt k hk
theorem QAt.kept {P : Nat → Prop} (H : QAt w base q h bm n policy Qh T f L) (k : Fr P w w') (hn : ∀ j, QSet q bm Qh j → ¬ P j) : QAt w' base q h bm n policy Qh T f L :=
  ⟨k.blk H.hx (hn q (.inl rfl)), H.heap.kept k (fun j hj => hn j (.inr (.inr hj))), H.map.kept k (hn bm (.inr (.inl rfl))), H.nT, H.bq, H.bbm, H.nq, H.nbm, H.ne, H.inv⟩
theorem QAt.later (H : QAt w base q h bm n policy Qh T f L) (k : Below w.heap.size w w') : QAt w' base q h bm n policy Qh T f L := H.kept (fr0 k) (fun _ _ h => h)
theorem QAt.weak {base' : Nat} (H : QAt w base q h bm n policy Qh T f L) (hb : base' ≤ base) : QAt w base' q h bm n policy Qh T f L :=
  ⟨H.hx, H.heap.weak hb, H.map, H.nT, Nat.le_trans hb H.bq, Nat.le_trans hb H.bbm, H.nq, H.nbm, H.ne, H.inv⟩
theorem QAt.more (H : QAt w base q h bm n policy Qh T f L) (hT : T ≤ T') : QAt w base q h bm n policy Qh T' f L :=
  ⟨H.hx, H.heap.more hT, H.map, Nat.le_trans H.nT hT, H.bq, H.bbm, H.nq, H.nbm, H.ne, H.inv⟩
theorem IsQ.lt (H : IsQ w base q Q policy T f L) : ∀ k, Q k → base ≤ k ∧ k < w.heap.size := by
  obtain ⟨h, bm, n, Qh, H, rfl⟩ := H
  exact H.lt
theorem IsQ.kept {P : Nat → Prop} (H : IsQ w base q Q policy T f L) (k : Fr P w w') (hn : ∀ j, Q j → ¬ P j) : IsQ w' base q Q policy T f L := by
  obtain ⟨h, bm, n, Qh, H, rfl⟩ := H
  exact ⟨h, bm, n, Qh, H.kept k hn, rfl⟩
theorem IsQ.later (H : IsQ w base q Q policy T f L) (k : Below w.heap.size w w') : IsQ w' base q Q policy T f L := H.kept (fr0 k) (fun _ _ h => h)
theorem IsQ.weak {base' : Nat} (H : IsQ w base q Q policy T f L) (hb : base' ≤ base) : IsQ w base' q Q policy T f L := by
  obtain ⟨h, bm, n, Qh, H, rfl⟩ := H
  exact ⟨h, bm, n, Qh, H.weak hb, rfl⟩
theorem IsQ.more (H : IsQ w base q Q policy T f L) (hT : T ≤ T') : IsQ w base q Q policy T' f L := by
  obtain ⟨h, bm, n, Qh, H, rfl⟩ := H
  exact ⟨h, bm, n, Qh, H.more hT, rfl⟩
theorem IsQ.inv (H : IsQ w base q Q policy T f L) : RqInv f L := let ⟨_, _, _, _, H, _⟩ := H; H.inv
theorem IsQ.facts (H : IsQ w base q Q policy T f L) : (fsts L).Nodup ∧ L.Pairwise (fun p q => p.2 ≤ q.2) ∧ L.length ≤ 24 := by
  obtain ⟨h, bm, n, Qh, H, rfl⟩ := H
  exact ⟨H.heap.facts.1, H.heap.facts.2.1, H.heap.facts.2.2.2.1⟩
theorem IsQ.behind (H : IsQ w base q Q policy T f L) (k : Below w.heap.size w w') (hT : T ≤ T') : QBehind w base q Q policy T' f L w' := ⟨Q, (H.later k).more hT, Fr.of_below k, fun _ h => .inl h⟩
theorem RqInv.out (H : RqInv f L) {t : Int} (h : t ∉ fsts L) : f t = none := by
  cases e : f t with
  | none => rfl
  | some r => exact absurd (H.bwd t r e).1 h
theorem RqInv.in_ (H : RqInv f L) {t : Int} (h : t ∈ fsts L) : ∃ r, f t = some r ∧ 0 ≤ t ∧ t < 24 ∧ r.Ok := by
  obtain ⟨p, hp, rfl⟩ := List.mem_map.1 h
  obtain ⟨r, hr, _⟩ := H.fwd p hp
  exact ⟨r, hr, (H.bwd _ r hr).2⟩
theorem RqInv.nil : RqInv (fun _ => none) [] := ⟨fun p hp => (by cases hp), fun t r h => (by cases h)⟩
theorem RqInv.add (H : RqInv f L) {t : Int} (r : Rk) (ht : 0 ≤ t ∧ t < 24) (hr : r.Ok) (hn : t ∉ fsts L) : RqInv (fun s => if s = t then some r else f s) (insP (t, r.key t) L) := by
  refine ⟨fun p hp => ?_, fun s r' hs => ?_⟩
  · rcases insP_mem.1 hp with rfl | hp
    · exact ⟨r, if_pos rfl, rfl⟩
    · obtain ⟨r', h1, h2⟩ := H.fwd p hp
      refine ⟨r', ?_, h2⟩
      have : p.1 ≠ t := fun e => hn (by rw [← e]; exact List.mem_map.2 ⟨p, hp, rfl⟩)
      show (if p.1 = t then some r else f p.1) = _
      rw [if_neg this]
      exact h1
  · by_cases e : s = t
    · subst e
      simp only [if_pos] at hs
      injection hs with hs
      subst hs
      exact ⟨fsts_ins.2 (.inl rfl), ht.1, ht.2, hr⟩
    · simp only [if_neg e] at hs
      obtain ⟨h1, h2⟩ := H.bwd s r' hs
      exact ⟨fsts_ins.2 (.inr h1), h2⟩
theorem RqInv.off (H : RqInv f L) (t : Int) : RqInv (fun s => if s = t then none else f s) (offP t L) := by
  refine ⟨fun p hp => ?_, fun s r' hs => ?_⟩
  · obtain ⟨hp1, hp2⟩ := List.mem_filter.1 hp
    obtain ⟨r', h1, h2⟩ := H.fwd p hp1
    have : p.1 ≠ t := by simpa using hp2
    refine ⟨r', ?_, h2⟩
    show (if p.1 = t then none else f p.1) = _
    rw [if_neg this]
    exact h1
  · by_cases e : s = t
    · simp only [if_pos e] at hs
      cases hs
    · simp only [if_neg e] at hs
      obtain ⟨h1, h2⟩ := H.bwd s r' hs
      exact ⟨fsts_off.2 ⟨e, h1⟩, h2⟩
theorem RqInv.congr (H : RqInv f L) (h : ∀ t, f' t = f t) : RqInv f' L := by
  rwa [show f' = f from funext h]
theorem RqInv.change (H : RqInv f L) {t : Int} (r : Rk) (ht : 0 ≤ t ∧ t < 24) (hr : r.Ok) : RqInv (fun s => if s = t then some r else f s) (insP (t, r.key t) (offP t L)) := by
  refine ((H.off t).add r ht hr (fun h => (fsts_off.1 h).1 rfl)).congr (fun s => ?_)
  by_cases e : s = t
  · rw [if_pos e, if_pos e]
  · rw [if_neg e, if_neg e, if_neg e]
theorem RqInv.room (H : RqInv f L) {t : Int} (ht : 0 ≤ t ∧ t < 24) (hnd : (fsts L).Nodup) (hn : t ∉ fsts L) : L.length < 24 := by
  have h := nodup_bound 24 (t :: fsts L) (List.nodup_cons.2 ⟨hn, hnd⟩) (fun s hs => by
    rcases List.mem_cons.1 hs with rfl | hs
    · exact ht
    · obtain ⟨r, _, h1, h2, _⟩ := H.in_ hs
      exact ⟨h1, h2⟩)
  have e : (fsts L).length = L.length := List.length_map _
  rw [List.length_cons, e] at h
  omega
theorem q_new_no (c : Int) (h : c ≠ 1 ∧ c ≠ 2) : Calls Try.prog 49 #[.int .i64 c] w fun e w' => e = .returned (.tuple #[.pointer none, .int .i64 1]) ∧ w' = w := by
  have h1 : (c != 1) = true := by simp [h.1]
  have h2 : (c != 2) = true := by simp [h.2]
  go_enter Try.func49, Try.ntmps49
  go_wp2_with fail
  go_ret2
  exact ⟨rfl, rfl⟩
set_option maxRecDepth 100000 in
theorem q_new (c : Int) (h : c = 1 ∨ c = 2) : Calls Try.prog 49 #[.int .i64 c] w fun e w' => ∃ q Q, e = .returned (.tuple #[.pointer (some ⟨q, 0, none⟩), .int .i64 0]) ∧ IsQ w' w.heap.size q Q c 0 (fun _ => none) [] ∧ Below w.heap.size w w' := by
  have hmm := @run_makeMap Try.prog
  go_enter Try.func49, Try.ntmps49
  rcases h with rfl | rfl
  all_goals
    go_wp2_with fail
    refine (heap_new 24 (by omega)).mono ?_
    rintro e w1 ⟨h, Qh, rfl, H1, hb1⟩
    have H1 := hid H1
    have HB1 := hid hb1
    clear hb1
    go_wp2_with fail
    go_ret2
    have hbm : Below w1.heap.size w1 (w1.alloc (.map #[] 0)) := (Below.refl _ _).alloc (Nat.le_refl _) _
    have hsz : (w1.alloc (.map #[] 0)).heap.size = w1.heap.size + 1 := by simp
    generalize hc : Obj.cells _ _ = ob
    have hb := blk_new (w1.alloc (.map #[] 0)) ob
    have hbq : Below w1.heap.size w1 ((w1.alloc (.map #[] 0)).alloc ob) := below_new hbm ob
    rw [hsz] at hb
    have hmp := (MapR.made w1).kept ((Fr.refl NoB _).alloc ob) (fun h => h)
    subst hc
    refine ⟨w1.heap.size + 1, _, rfl, ⟨h, w1.heap.size, 0, Qh, ⟨hb, H1.out.later hbq, hmp, Nat.le_refl _, by have := HB1.out.size; omega, HB1.out.size, fun e => by have := (H1.out.lt _ e).2; omega, fun e => by have := (H1.out.lt _ e).2; omega, by omega, RqInv.nil⟩, rfl⟩, below_then HB1.out hbq⟩
theorem q_first (H : IsQ w base q Q policy T f L) : Calls Try.prog 52 #[.pointer (some ⟨q, 0, none⟩)] w fun e w' => e = .returned (.int .i64 (if L.isEmpty then -1 else (headP L).1)) ∧ ∃ k, w' = w.drewN k := by
  obtain ⟨h, bm, n, Qh, H, rfl⟩ := H
  have c1 : w.cell? ⟨q, 1, none⟩ = some (.pointer (some ⟨h, 0, none⟩)) := blk_cell H.hx 1
  have HF := hid (heap_first H.heap)
  generalize headP L = p at *
  clear H
  cases hL : L.isEmpty
  all_goals
    rw [hL] at HF
    go_enter Try.func52, Try.ntmps52
    go_wp2_with fail
    refine HF.out.mono ?_
    rintro e w1 ⟨rfl, hw⟩
    have HW := hid hw
    clear hw
    go_wp2_with fail
    go_ret
    exact ⟨rfl, HW.out⟩
theorem q_all (H : IsQ w base q Q policy T f L) : Calls Try.prog 53 #[.pointer (some ⟨q, 0, none⟩)] w fun e w' => ∃ u, e = .returned u ∧ w'.ownsRow w.heap.size 3 1 u L.length (intCells (fsts L)) ∧ Below w.heap.size w w' := by
  obtain ⟨h, bm, n, Qh, H, rfl⟩ := H
  have c1 : w.cell? ⟨q, 1, none⟩ = some (.pointer (some ⟨h, 0, none⟩)) := blk_cell H.hx 1
  have HF := hid (heap_all H.heap)
  clear H
  go_enter Try.func53, Try.ntmps53
  go_wp2_with fail
  refine HF.out.mono ?_
  rintro e w1 ⟨u, rfl, hu, hb⟩
  have HU := hid hu
  have HB := hid hb
  clear hu hb
  go_wp2_with fail
  go_ret
  exact ⟨u, rfl, HU.out, HB.out⟩
set_option maxRecDepth 100000 in
theorem q_level (H : IsQ w base q Q policy T f L) {t : Int} (ht : -9223372036854775808 ≤ t ∧ t ≤ 9223372036854775807) : Calls Try.prog 55 #[.pointer (some ⟨q, 0, none⟩), .int .i64 t] w fun e w' => e = .returned (.tuple #[.int .i64 ((f t).getD Rk.zero).level, .bool (f t).isSome]) ∧ Below w.heap.size w w' := by
  obtain ⟨h, bm, n, Qh, H, rfl⟩ := H
  have c2 : w.cell? ⟨q, 2, none⟩ = some (.map (some bm)) := blk_cell H.hx 2
  have HM := hid H.map
  have HW := hid (wfI ht.1 ht.2)
  obtain ⟨r, hr⟩ : ∃ r, (f t).getD Rk.zero = r := ⟨_, rfl⟩
  obtain ⟨b, hb⟩ : ∃ b, (f t).isSome = b := ⟨_, rfl⟩
  rw [hr, hb]
  have HR := hid hr
  have HB := hid hb
  have HLV := hid (fun W => (show Calls Try.prog 84 #[.agg #[.int .i64 r.own, .int .i64 r.up, .bool r.ra]] W _ from rank_level (w := W) r))
  clear H hr hb ht
  generalize r.level = lv at *
  go_enter Try.func55, Try.ntmps55
  go_wp2_with (at_lookup; refine wp_rlook_ok rfl _ _ _ rfl Try.underlying112 HM.out rfl t rfl HW.out ?_; rw [HR.out, HB.out]; unfold rkV)
  refine (HLV.out _).mono ?_
  rintro e w2 ⟨rfl, hb2⟩
  have HB2 := hid (below_then ((Below.refl w.heap.size w).alloc (Nat.le_refl _) _) hb2)
  clear hb2
  go_wp2_with fail
  go_ret2
  exact ⟨rfl, HB2.out⟩
set_option maxRecDepth 100000 in
set_option maxHeartbeats 800000 in
theorem q_remove (H : IsQ w base q Q policy T f L) {t : Int} (ht : -9223372036854775808 ≤ t ∧ t ≤ 9223372036854775807) (hT : T < 10000) : Calls Try.prog 58 #[.pointer (some ⟨q, 0, none⟩), .int .i64 t] w fun e w' =>
    e = .returned (.int .i64 (if t ∈ fsts L then 0 else 5)) ∧ QBehind w base q Q policy (T + 1) (fun s => if s = t then none else f s) (offP t L) w' := by
  obtain ⟨h, bm, n, Qh, H, rfl⟩ := H
  have c2 : w.cell? ⟨q, 2, none⟩ = some (.map (some bm)) := blk_cell H.hx 2
  have HM := hid H.map
  have HW := hid (wfI ht.1 ht.2)
  have HH := hid H
  have HRM := hid (show ∀ W, IsHeap W base h Qh 24 T L → Calls Try.prog 34 #[.pointer (some ⟨h, 0, none⟩), .int .i64 t] W fun e w' => e = .returned (.int .i64 (if t ∈ fsts L then 0 else 5)) ∧ HBehind W base h Qh 24 (T + 1) (offP t L) w' from fun W hI => by
    by_cases hin : t ∈ fsts L
    · rw [if_pos hin]
      exact heap_remove_yes hI hin (by omega)
    · rw [if_neg hin, offP_out hin]
      refine (heap_remove_no hI ht hin).mono ?_
      rintro e w' ⟨rfl, rfl⟩
      exact ⟨rfl, hI.behind (Below.refl _ _) (by omega)⟩)
  generalize (if t ∈ fsts L then (0 : Int) else 5) = r at *
  clear H ht
  go_enter Try.func58, Try.ntmps58
  go_wp2_with (at_delete; refine wp_rdelete rfl _ _ _ rfl Try.underlying112 HM.out rfl t rfl HW.out ?_)
  intro w1 hM1 hF1
  have hx1 := hF1.blk HH.out.hx HH.out.ne
  have c1 : w1.cell? ⟨q, 1, none⟩ = some (.pointer (some ⟨h, 0, none⟩)) := blk_cell hx1 1
  have HI1 := hid (HH.out.heap.kept hF1 (fun j hj e => HH.out.nbm (by rw [show bm = j from e.symm]; exact hj)))
  have HM1 := hid hM1
  have HF1 := hid hF1
  have HX1 := hid hx1
  clear hM1 hF1 hx1 c2 HM
  go_wp2_with fail
  refine (HRM.out _ HI1.out).mono ?_
  rintro e w2 ⟨rfl, hB⟩
  have HB := hid hB
  clear hB
  go_wp2_with fail
  go_ret
  obtain ⟨Qh', h1, h2, h3⟩ := HB.out
  have hnew : ∀ k, k < w.heap.size → ¬ Qh k → ¬ Qh' k := fun k hk hn e => (h3 k e).elim hn (fun h => by have := HF1.out.size; omega)
  refine ⟨rfl, QSet q bm Qh', ⟨h, bm, n, Qh', ⟨h2.blk HX1.out HH.out.nq, h1, HM1.out.kept h2 HH.out.nbm, by have := HH.out.nT; omega, HH.out.bq, HH.out.bbm, hnew q (blk_lt HH.out.hx) HH.out.nq, hnew bm HH.out.map.lt HH.out.nbm, HH.out.ne, HH.out.inv.off t⟩, rfl⟩, ?_, ?_⟩
  · exact (HF1.out.mono (S' := QSet q bm Qh) (fun k hk => .inl (.inr (.inl hk)))).trans h2 (fun k hk => .inl (.inr (.inr hk)))
  · rintro k (hk | hk | hk)
    · exact .inl (.inl hk)
    · exact .inl (.inr (.inl hk))
    · exact (h3 k hk).elim (fun h => .inl (.inr (.inr h))) (fun h => .inr (Nat.le_trans HF1.out.size h))
end
end Go.Proofs.Ytbkjlohlfkokpaa
