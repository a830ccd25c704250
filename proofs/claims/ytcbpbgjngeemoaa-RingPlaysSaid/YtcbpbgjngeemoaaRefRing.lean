/- The document's ring: what its functions do, each once (contracts), in the words of package ring's. -/
import Derived.Test.YtcbpbgjngeemoaaRef04
import Derived.Deep.CutBlock
import Derived.Deep.DeepCutAuto
set_option linter.unusedVariables false
set_option linter.unusedSimpArgs false
namespace Go.Proofs.Ytcbpbgjngeemoaa
open Go.RowKit

def tks (l : List (Int × Int)) : List Int := l.map (·.2)
/-- Two rows of whole numbers that share no block. -/
structure Rows2 (w : World) (base : Nat) (v6 v7 : Value) (a b : List Int) : Prop where
  a : w.ownsRow base 3 1 v6 a.length (intCells a)
  b : w.ownsRow base 3 1 v7 b.length (intCells b)
  ap : ∀ k, v6.ownBlock = some k → v7.ownBlock ≠ some k
theorem Rows2.nil (w : World) (base : Nat) : Rows2 w base (.slice none 0 0) (.slice none 0 0) [] [] := ⟨World.ownsRow_nil _ _ _ _, World.ownsRow_nil _ _ _ _, fun k h => by cases h⟩
theorem Rows2.kept {w w' : World} {base : Nat} {v6 v7 : Value} {a b : List Int} {S : Nat → Prop} (h : Rows2 w base v6 v7 a b) (f : Fr S w w') (h6 : ∀ k, v6.ownBlock = some k → ¬ S k) (h7 : ∀ k, v7.ownBlock = some k → ¬ S k) : Rows2 w' base v6 v7 a b :=
  ⟨own_kept h.a f h6, own_kept h.b f h7, h.ap⟩
theorem int_snoc (a : List Int) (x : Int) : intCells (a ++ [x]) = intCells a ++ [.int .i64 x] := by simp [intCells]
theorem Rows2.pushA {w w1 : World} {base : Nat} {v6 v7 v6' : Value} {a b : List Int} {x : Int} (h : Rows2 w base v6 v7 a b) (h1 : w1.ownsRow base 3 1 v6' (a.length + 1) (intCells a ++ [.int .i64 x])) (f1 : Fr (fun k => v6.ownBlock = some k) w w1)
    (q1 : v6'.ownBlock = v6.ownBlock ∨ v6'.ownBlock = some (w.heap.size + 1)) : Rows2 w1 base v6' v7 (a ++ [x]) b := by
  refine ⟨by rw [int_snoc, List.length_append]; exact h1, own_kept h.b f1 (fun k hk e => h.ap k e hk), fun k hk hk7 => ?_⟩
  rcases q1 with q1 | q1
  · exact h.ap k (q1 ▸ hk) hk7
  · rw [q1] at hk
    injection hk with hk
    have := (h.b.lt k hk7).2
    omega
theorem Rows2.pushB {w w1 : World} {base : Nat} {v6 v7 v7' : Value} {a b : List Int} {x : Int} (h : Rows2 w base v6 v7 a b) (h1 : w1.ownsRow base 3 1 v7' (b.length + 1) (intCells b ++ [.int .i64 x])) (f1 : Fr (fun k => v7.ownBlock = some k) w w1)
    (q1 : v7'.ownBlock = v7.ownBlock ∨ v7'.ownBlock = some (w.heap.size + 1)) : Rows2 w1 base v6 v7' a (b ++ [x]) := by
  refine ⟨own_kept h.a f1 (fun k hk e => h.ap k hk e), by rw [int_snoc, List.length_append]; exact h1, fun k hk hk7 => ?_⟩
  rcases q1 with q1 | q1
  · exact h.ap k hk (q1 ▸ hk7)
  · rw [q1] at hk7
    injection hk7 with hk7
    have := (h.a.lt k hk).2
    omega
/-- Block x is the document's ring in a state; its rows from block 'base' on. -/
structure RefAt (w : World) (base x : Nat) (vi vt : Value) (R : RS) : Prop where
  hx : w.heap[x]? = some (.cells #[.int .i64 R.room, vi, vt, .int .i64 R.last] 65 (0, 0))
  rows : Rows2 w base vi vt (ids R.l) (tks R.l)
  bx : base ≤ x
  ap : ∀ k, (vi.ownBlock = some k ∨ vt.ownBlock = some k) → k ≠ x
/-- Its blocks. -/
def RefSet (x : Nat) (vi vt : Value) : Nat → Prop := fun k => k = x ∨ vi.ownBlock = some k ∨ vt.ownBlock = some k
theorem RefAt.lt {w : World} {base x : Nat} {vi vt : Value} {R : RS} (h : RefAt w base x vi vt R) : ∀ k, RefSet x vi vt k → base ≤ k ∧ k < w.heap.size := by
  intro k hk
  rcases hk with rfl | hk | hk
  · exact ⟨h.bx, blk_lt h.hx⟩
  · exact h.rows.a.lt k hk
  · exact h.rows.b.lt k hk
theorem RefAt.kept {w w' : World} {base x : Nat} {vi vt : Value} {R : RS} {S : Nat → Prop} (h : RefAt w base x vi vt R) (f : Fr S w w') (hn : ∀ k, RefSet x vi vt k → ¬ S k) : RefAt w' base x vi vt R :=
  ⟨f.blk h.hx (hn x (.inl rfl)), h.rows.kept f (fun k hk => hn k (.inr (.inl hk))) (fun k hk => hn k (.inr (.inr hk))), h.bx, h.ap⟩
theorem RefAt.drewN {w : World} {base x : Nat} {vi vt : Value} {R : RS} (h : RefAt w base x vi vt R) (q : Nat) : RefAt (w.drewN q) base x vi vt R := ⟨h.hx, ⟨h.rows.a, h.rows.b, h.rows.ap⟩, h.bx, h.ap⟩
/-- What a deed leaves: the ring in the state R', its blocks some of the old ones or new. -/
def RefBehind (w : World) (base x : Nat) (vi vt : Value) (R' : RS) (w' : World) : Prop :=
  ∃ vi' vt', RefAt w' base x vi' vt' R' ∧ Fr (RefSet x vi vt) w w' ∧ ∀ k, RefSet x vi' vt' k → RefSet x vi vt k ∨ w.heap.size ≤ k
theorem RefBehind.same {w : World} {base x : Nat} {vi vt : Value} {R : RS} (h : RefAt w base x vi vt R) (q : Nat) : RefBehind w base x vi vt R (w.drewN q) :=
  ⟨vi, vt, h.drewN q, (Fr.refl _ w).drewN q, fun k hk => .inl hk⟩

theorem refnew_no {w : World} (room : Int) (h : room < 0 ∨ 256 < room) : Calls Try.prog 35 #[.int .i64 room] w fun e w' => e = .returned (.pointer none) ∧ w' = w := by
  go_enter Try.func35, Try.ntmps35
  rcases h with h | h
  · go_wp2_with fail
    go_ret
    exact ⟨rfl, rfl⟩
  · have h2 : ¬ room < 0 := by omega
    go_wp2_with fail
    go_ret
    exact ⟨rfl, rfl⟩
theorem refnew_yes {w : World} (room : Nat) (h : room ≤ 256) : Calls Try.prog 35 #[.int .i64 room] w fun e w' => e = .returned (.pointer (some ⟨w.heap.size, 0, none⟩)) ∧ RefAt w' w.heap.size w.heap.size (.slice none 0 0) (.slice none 0 0) ⟨room, 0, []⟩ ∧ Below w.heap.size w w' := by
  go_enter Try.func35, Try.ntmps35
  go_wp2_with fail
  go_ret
  exact ⟨rfl, ⟨blk_new _ _, Rows2.nil _ _, Nat.le_refl _, fun k hk => by rcases hk with hk | hk <;> cases hk⟩, (Below.refl _ _).alloc (Nat.le_refl _) _⟩

set_option maxHeartbeats 400000 in
theorem ref_place {w : World} {base x : Nat} {vi vt : Value} {R : RS} (H : RefAt w base x vi vt R) (id : Int) (hm : R.l.length < 4611686018427387904) :
    Calls Try.prog 40 #[.pointer (some ⟨x, 0, none⟩), .int .i64 id] w fun e w' => e = .returned (.int .i64 (place R.l id)) ∧ w' = w := by
  obtain ⟨A, cap, rfl⟩ := own_slice H.rows.a
  obtain ⟨m, hm2⟩ : ∃ m, m = R.l.length := ⟨_, rfl⟩
  have c1 : w.cell? ⟨x, 1, none⟩ = some (.slice A m cap) := by rw [blk_cell H.hx 1, hm2]; simp [ids]
  have HO := hid (own_holds H.rows.a)
  have HM := hid hm2
  rw [← hm2] at hm
  clear H hm2
  go_enter Try.func40, Try.ntmps40
  go_wp2_with fail
  go_loopw [5] (fun i wr => ∃ k : Nat, k ≤ m ∧ i = .int .i64 k ∧ wr = w ∧ Hid (∀ (j : Nat) (p : Int × Int), j < k → R.l[j]? = some p → p.1 ≠ id)) (fun i _ => m - (intOf i).toNat)
  case atStart => exact ⟨0, by omega, rfl, rfl, fun j p hj => by omega⟩
  case round =>
    obtain ⟨k, hk, rfl, rfl, hno⟩ := hrel
    by_cases hlt : k < m
    · obtain ⟨y, hy⟩ : ∃ y, R.l[k]? = some y := ⟨_, List.getElem?_eq_getElem (by have := HM.out; omega)⟩
      obtain ⟨b, o, rfl, cy⟩ := HO.out k y.1 (ids_get hy)
      have HY := hid hy
      clear hy
      go_wp2_with fail
      · go_ret
        have he : (y.1 == id) = true := by assumption
        exact ⟨ret_eq (by rw [place_hit R.l id k y hno.out HY.out (by simpa using he)]; rfl), rfl⟩
      · go_roundw
        case rel => exact ⟨k + 1, by omega, by go_num, by trivial, fun j p hj hp => by
          rcases Nat.lt_or_ge j k with h | h
          · exact hno.out j p h hp
          · obtain rfl : j = k := by omega
            rw [HY.out] at hp
            cases hp
            have hne : (y.1 == id) = false := by assumption
            simpa using hne⟩
        case measure => simp [intOf]; omega
    · go_wp2_with fail
      go_ret
      exact ⟨ret_eq (by rw [place_none R.l id (fun j p hp => hno.out j p (by have := (List.getElem?_eq_some_iff.1 hp).1; have := HM.out; omega) hp)]; rfl), rfl⟩

set_option maxHeartbeats 400000 in
theorem ref_ticket {w : World} {base x : Nat} {vi vt : Value} {R : RS} (H : RefAt w base x vi vt R) (id : Int) (hm : R.l.length < 4611686018427387904) :
    Calls Try.prog 41 #[.pointer (some ⟨x, 0, none⟩), .int .i64 id] w fun e w' => e = .returned (.int .i64 (ticketOf R.l id)) ∧ w' = w := by
  have hpl := ref_place H id hm
  by_cases hp : place R.l id < 0
  · have ht := hid (ticket_none R.l id hp)
    clear H
    generalize place R.l id = pl at *
    have HP := hid hpl
    clear hpl
    go_enter Try.func41, Try.ntmps41
    go_wp2_with (go_at_call 40; refine HP.out.mono ?_; rintro e w' ⟨rfl, rfl⟩)
    go_ret
    exact ⟨ret_eq (by rw [ht.out]; rfl), rfl⟩
  · obtain ⟨p, h1, _, h3⟩ := ticket_some R.l id (by omega)
    have hk := place_ge R.l id
    obtain ⟨k, hk2⟩ : ∃ k : Nat, place R.l id = k := ⟨(place R.l id).toNat, by omega⟩
    rw [hk2] at h1 hpl hk
    simp only [Int.toNat_natCast] at h1
    obtain ⟨A, cap, rfl⟩ := own_slice H.rows.b
    obtain ⟨b, o, rfl, cx⟩ := own_holds H.rows.b k p.2 (by simp [tks, h1])
    obtain ⟨m, hm2⟩ : ∃ m, m = R.l.length := ⟨_, rfl⟩
    have c2 : w.cell? ⟨x, 2, none⟩ = some (.slice (some ⟨b, o, none⟩) m cap) := by rw [blk_cell H.hx 2, hm2]; simp [tks]
    have ht := hid h3
    have HP := hid hpl
    have hkm : k < m := by omega
    clear hpl h3 h1 hp hk2 H
    go_enter Try.func41, Try.ntmps41
    go_wp2_with (go_at_call 40; refine HP.out.mono ?_; rintro e w' ⟨rfl, rfl⟩)
    go_ret
    exact ⟨ret_eq (by rw [← ht.out]; rfl), rfl⟩

theorem RefAt.setLast {w : World} {base x : Nat} {vi vt : Value} {room last : Nat} {l : List (Int × Int)} (h : RefAt w base x vi vt ⟨room, last, l⟩) (n : Nat) : RefAt (w.setCell ⟨x, 3, none⟩ (.int .i64 ((n : Nat) : Int))) base x vi vt ⟨room, n, l⟩ :=
  ⟨by simpa using blk_set h.hx 3 (.int .i64 ((n : Nat) : Int)), h.rows.kept ((Fr.refl (One x) w).one 3 _) (fun k hk e => h.ap k (.inl hk) e) (fun k hk e => h.ap k (.inr hk) e), h.bx, h.ap⟩
theorem loc_ne {v v' : Value} {x n : Nat} (h : v'.ownBlock = v.ownBlock ∨ v'.ownBlock = some (n + 1)) (hv : ∀ k, v.ownBlock = some k → k ≠ x) (hx : x < n) : ∀ k, v'.ownBlock = some k → k ≠ x := by
  intro k hk
  rcases h with h | h
  · exact hv k (h ▸ hk)
  · rw [h] at hk; injection hk with hk; omega
theorem loc_old {v v' : Value} {m n : Nat} (h : v'.ownBlock = v.ownBlock ∨ v'.ownBlock = some (n + 1)) (hn : m ≤ n) : ∀ k, v'.ownBlock = some k → v.ownBlock = some k ∨ m ≤ k := by
  intro k hk
  rcases h with h | h
  · exact .inl (h ▸ hk)
  · rw [h] at hk; injection hk with hk; exact .inr (by omega)
set_option maxHeartbeats 800000 in
set_option maxRecDepth 100000 in
theorem refput_room {w : World} {base x : Nat} {vi vt : Value} {room last : Nat} {l : List (Int × Int)} (H : RefAt w base x vi vt ⟨room, last, l⟩) (id : Int) (h1 : place l id < 0) (h2 : l.length < room) (h3 : last < 4611686018427387904) (h4 : room ≤ 256) :
    Calls Try.prog 36 #[.pointer (some ⟨x, 0, none⟩), .int .i64 id] w fun e w' => e = .returned (.tuple #[.int .i64 ((last : Int) + 1), .int .i64 0]) ∧ RefBehind w base x vi vt ⟨room, last + 1, l ++ [(id, (last : Int) + 1)]⟩ w' := by
  have HP := hid (ref_place H id (by show l.length < _; omega))
  obtain ⟨Ai, ci, rfl⟩ := own_slice H.rows.a
  obtain ⟨At, ct, rfl⟩ := own_slice H.rows.b
  have hli : (ids l).length = l.length := by simp [ids]
  have hlt : (tks l).length = l.length := by simp [tks]
  obtain ⟨m, hm⟩ : ∃ m, m = l.length := ⟨_, rfl⟩
  rw [← hm] at hli hlt
  have HL := hid (And.intro hli hlt)
  have HH := hid H
  have hxl := blk_lt H.hx
  have c0 : w.cell? ⟨x, 0, none⟩ = some (.int .i64 room) := blk_cell H.hx 0
  have c1 : w.cell? ⟨x, 1, none⟩ = some (.slice Ai m ci) := by rw [blk_cell H.hx 1]; simp [hli]
  have c2 : w.cell? ⟨x, 2, none⟩ = some (.slice At m ct) := by rw [blk_cell H.hx 2]; simp [hlt]
  have c3 : w.cell? ⟨x, 3, none⟩ = some (.int .i64 last) := blk_cell H.hx 3
  have f3 : w.frozen? ⟨x, 3, none⟩ = false := blk_free H.hx 3
  rw [← hm] at h2
  have HM := hid hm
  simp only [] at HP
  generalize place l id = pl at *
  clear H hm hli hlt
  obtain ⟨i0, hi, hz0, hz1, hz2⟩ := info_parts Try.info_int
  go_enter Try.func36, Try.ntmps36
  go_wp2_with (go_at_call 40; refine HP.out.mono ?_; rintro e w0 ⟨rfl, rfl⟩)
  go_quiet (fail)
  go_upto_region 6 with fail
  generalize hwq : (World.drewN _ _).setCell ⟨x, 3, none⟩ (.int .i64 ((last : Int) + 1)) = wq
  have HQ : RefAt wq base x (.slice Ai m ci) (.slice At m ct) ⟨room, last + 1, l⟩ := by
    have h := (HH.out.drewN nq).setLast (last + 1)
    simp only [HL.out.1, HL.out.2] at h
    rw [← hwq]
    exact h
  have hFq : Fr (One x) w0 wq := by rw [← hwq]; exact ((Fr.refl (One x) w0).drewN nq).one 3 _
  have c1q : wq.cell? ⟨x, 1, none⟩ = some (.slice Ai m ci) := blk_cell HQ.hx 1
  have HQ1 := hid HQ
  have HFq := hid hFq
  have hown := HQ.rows.a
  rw [HL.out.1] at hown
  simp only [] at hown
  have hbx := HQ.bx
  have hxq := blk_lt HQ.hx
  clear HQ hFq hwq c0 c1 c2 c3 f3
  go_wp2_with (at_builtin; refine append_new rfl _ _ 22 rfl base 3 i0 _ 1 8 Try.underlying22 hi hz0 hz1 hz2 rfl (by decide) #[.int .i64 id] (.slice Ai m ci) m (intCells (ids l)) rfl _ rfl rfl hown rfl (one_one _) (by unfold maxLen; omega) (by omega) (by omega) ?_)
  intro v1 w1 hown1 hf1 hl1
  obtain ⟨g1, cc1, cu1, rfl, _⟩ := own_shape hown1 (Nat.succ_pos _)
  have hx1 := hf1.blk HQ1.out.hx (fun h => HQ1.out.ap x (.inl h) rfl)
  have f1 : w1.frozen? ⟨x, 1, none⟩ = false := blk_free hx1 1
  have c11 : w1.cell? ⟨x, 1, none⟩ = some (.slice Ai m ci) := by rw [blk_cell hx1 1]; simp
  have HR1 := hid (HQ1.out.rows.pushA (by rw [HL.out.1]; exact hown1) hf1 hl1)
  have HN1 := hid (loc_ne hl1 (fun k hk => HQ1.out.ap k (.inl hk)) hxq)
  have HD1 := hid (loc_old hl1 HFq.out.size)
  have HF1 := hid hf1
  have HX1 := hid hx1
  clear hown1 hf1 hl1 hown c1q hx1
  go_upto_region 7 with fail
  generalize hws : w1.setCell ⟨x, 1, none⟩ _ = ws
  have hXs : ws.heap[x]? = some (.cells #[.int .i64 room, .slice (some ⟨g1, 0, none⟩) (m + 1) cc1, .slice At m ct, .int .i64 ((last + 1 : Nat) : Int)] 65 (0, 0)) := by
    rw [← hws]; simpa using blk_set HX1.out 1 (.slice (some ⟨g1, 0, none⟩) (m + 1) cc1)
  have hFs : Fr (One x) w1 ws := by rw [← hws]; exact (Fr.refl (One x) w1).one 1 _
  have hRs := HR1.out.kept hFs HN1.out (fun k hk => HQ1.out.ap k (.inr hk))
  have hownb := hRs.b
  rw [HL.out.2] at hownb
  have hxs := blk_lt hXs
  have hap := HQ1.out.ap
  have c1s : ws.cell? ⟨x, 1, none⟩ = some (.slice (some ⟨g1, 0, none⟩) (m + 1) cc1) := by rw [blk_cell hXs 1]; simp
  have c2s : ws.cell? ⟨x, 2, none⟩ = some (.slice At m ct) := by rw [blk_cell hXs 2]; simp
  have c3s : ws.cell? ⟨x, 3, none⟩ = some (.int .i64 ((last : Int) + 1)) := by rw [blk_cell hXs 3]; simp
  have HRs := hid hRs
  have HFs := hid hFs
  have HXs := hid hXs
  have HAP := hid hap
  have HOB := hid hownb
  clear hRs hFs hXs hws hap hownb c11 f1 c1s
  go_region_law (first
    | (refine step_append_new (W := ws.drew) rfl _ _ 22 rfl base 3 i0 _ 1 8 Try.underlying22 hi hz0 hz1 hz2 rfl (by decide) #[.int .i64 ((last : Int) + 1)] (.slice At m ct) m (intCells (tks l)) (by simp [Act.eval, Act.put]) ws.heap.size (by simp [Act.eval, Act.put]) (by simp) (own_drewN HOB.out 1) rfl (one_one _) (by unfold maxLen; omega) (by omega) (by simp; omega) ?_
       intro v2 w2 hown2 hf2 hl2
       obtain ⟨g2, cc2, cu2, rfl, _⟩ := own_shape hown2 (Nat.succ_pos _)
       have hx2 := hf2.blk (k := x) HXs.out (fun h => HAP.out x (.inr h) rfl)
       have f22 : w2.frozen? ⟨x, 2, none⟩ = false := blk_free hx2 2
       have c22 : w2.cell? ⟨x, 2, none⟩ = some (.slice At m ct) := by rw [blk_cell hx2 2]; simp
       have c32 : w2.cell? ⟨x, 3, none⟩ = some (.int .i64 ((last : Int) + 1)) := by rw [blk_cell hx2 3]; simp
       have HO2 := hid hown2
       have HF2 := hid hf2
       have HL2 := hid hl2
       have HX2 := hid hx2
       clear hown2 hf2 hl2 hx2))
  all_goals
    go_wp2_with fail
    go_ret2
    have F0 : Fr (RefSet x (.slice Ai m ci) (.slice At m ct)) w0 wq := HFq.out.mono (fun k hk => .inl (.inl hk))
    have F1 := F0.trans HF1.out (fun k hk => .inl (.inr (.inl hk)))
    have F2 := F1.trans HFs.out (fun k hk => .inl (.inl hk))
    have F3 := (F2.drew).trans HF2.out (fun k hk => .inl (.inr (.inr hk)))
    have hN2 := loc_ne HL2.out (fun k hk => HAP.out k (.inr hk)) hxs
    have hD2 := loc_old HL2.out F2.size
    have hR2 := (Rows2.pushB (x := (last : Int) + 1) (w := ws.drew) (w1 := w2) ⟨HRs.out.a, HRs.out.b, HRs.out.ap⟩ (by rw [HL.out.2]; exact HO2.out) HF2.out HL2.out).kept ((Fr.refl (One x) w2).one 2 (.slice (some ⟨g2, 0, none⟩) (m + 1) cc2)) HN1.out hN2
    have e1 : ids (l ++ [(id, (last : Int) + 1)]) = ids l ++ [id] := by simp [ids]
    have e2 : tks (l ++ [(id, (last : Int) + 1)]) = tks l ++ [(last : Int) + 1] := by simp [tks]
    rw [← e1, ← e2] at hR2
    refine ⟨rfl, ?_⟩
    rw [HL.out.1, HL.out.2]
    refine ⟨_, _, ⟨by simpa using blk_set HX2.out 2 (.slice (some ⟨g2, 0, none⟩) (m + 1) cc2), hR2, HQ1.out.bx, fun k hk => hk.elim (HN1.out k) (hN2 k)⟩, F3.set (p := ⟨x, 2, none⟩) (.inl (.inl rfl)) _, fun k hk => ?_⟩
    rcases hk with hk | hk | hk
    · exact .inl (.inl hk)
    · exact (HD1.out k hk).imp (fun h => .inr (.inl h)) (fun h => h)
    · exact (hD2 k hk).imp (fun h => .inr (.inr h)) (fun h => h)

set_option maxHeartbeats 400000 in
theorem refput_there {w : World} {base x : Nat} {vi vt : Value} {R : RS} (H : RefAt w base x vi vt R) (id : Int) (h1 : 0 ≤ place R.l id) (hm : R.l.length < 4611686018427387904) :
    Calls Try.prog 36 #[.pointer (some ⟨x, 0, none⟩), .int .i64 id] w fun e w' => e = .returned (.tuple #[.int .i64 0, .int .i64 4]) ∧ RefBehind w base x vi vt R w' := by
  have HH := hid H
  have HP := hid (ref_place H id hm)
  clear H
  generalize place R.l id = pl at *
  go_enter Try.func36, Try.ntmps36
  go_wp2_with (go_at_call 40; refine HP.out.mono ?_; rintro e w0 ⟨rfl, rfl⟩)
  go_ret2
  exact ⟨rfl, RefBehind.same HH.out 0⟩
set_option maxHeartbeats 400000 in
theorem refput_full {w : World} {base x : Nat} {vi vt : Value} {R : RS} (H : RefAt w base x vi vt R) (id : Int) (h1 : place R.l id < 0) (h2 : R.room ≤ R.l.length) (hm : R.l.length < 4611686018427387904) :
    Calls Try.prog 36 #[.pointer (some ⟨x, 0, none⟩), .int .i64 id] w fun e w' => e = .returned (.tuple #[.int .i64 0, .int .i64 3]) ∧ RefBehind w base x vi vt R w' := by
  have HH := hid H
  have HP := hid (ref_place H id hm)
  obtain ⟨Ai, ci, rfl⟩ := own_slice H.rows.a
  obtain ⟨m, hm2⟩ : ∃ m, m = R.l.length := ⟨_, rfl⟩
  have c0 : w.cell? ⟨x, 0, none⟩ = some (.int .i64 R.room) := blk_cell H.hx 0
  have c1 : w.cell? ⟨x, 1, none⟩ = some (.slice Ai m ci) := by rw [blk_cell H.hx 1, hm2]; simp [ids]
  rw [← hm2] at h2
  clear H hm2
  generalize place R.l id = pl at *
  go_enter Try.func36, Try.ntmps36
  go_wp2_with (go_at_call 40; refine HP.out.mono ?_; rintro e w0 ⟨rfl, rfl⟩)
  go_quiet (fail)
  go_wp2_with fail
  go_ret2
  exact ⟨rfl, RefBehind.same HH.out _⟩
theorem ref_put {w : World} {base x : Nat} {vi vt : Value} {R R' : RS} (H : RefAt w base x vi vt R) (id : Int) (h3 : R.last < 4611686018427387904) (h4 : R.room ≤ 256) (h5 : R.l.length ≤ R.room) {a b : Int} (hp : putR R id = (a, b, R')) :
    Calls Try.prog 36 #[.pointer (some ⟨x, 0, none⟩), .int .i64 id] w fun e w' => e = .returned (.tuple #[.int .i64 a, .int .i64 b]) ∧ RefBehind w base x vi vt R' w' := by
  unfold putR at hp
  by_cases h1 : 0 ≤ place R.l id
  · rw [if_pos h1] at hp
    simp only [Prod.mk.injEq] at hp
    obtain ⟨rfl, rfl, rfl⟩ := hp
    exact refput_there H id h1 (by omega)
  · rw [if_neg h1] at hp
    by_cases h2 : R.room ≤ R.l.length
    · rw [if_pos h2] at hp
      simp only [Prod.mk.injEq] at hp
      obtain ⟨rfl, rfl, rfl⟩ := hp
      exact refput_full H id (by omega) h2 (by omega)
    · rw [if_neg h2] at hp
      simp only [Prod.mk.injEq] at hp
      obtain ⟨rfl, rfl, rfl⟩ := hp
      obtain ⟨room, last, l⟩ := R
      exact refput_room H id (by have h1' : ¬ 0 ≤ place l id := h1; omega) (by simpa using h2) h3 h4

/-- The list without its k-th, as far as j. -/
def upTo (l : List (Int × Int)) (k j : Nat) : List (Int × Int) := (l.take j).eraseIdx k
theorem upTo_eq {l : List (Int × Int)} {k : Nat} : upTo l k (k + 1) = upTo l k k := by
  have e1 : (l.take k).eraseIdx k = l.take k := List.eraseIdx_of_length_le (by rw [List.length_take]; omega)
  have e2 : (l.take (k + 1)).eraseIdx k = l.take k := by rw [List.eraseIdx_eq_take_drop_succ, List.take_take, Nat.min_eq_left (by omega), List.drop_eq_nil_of_le (by rw [List.length_take]; omega), List.append_nil]
  unfold upTo
  rw [e1, e2]
theorem upTo_ne {l : List (Int × Int)} {k j : Nat} {y : Int × Int} (h : l[j]? = some y) (hne : j ≠ k) : upTo l k (j + 1) = upTo l k j ++ [y] := by
  have hl := (List.getElem?_eq_some_iff.1 h).1
  unfold upTo
  rw [List.take_add_one, h]
  simp only [Option.toList_some]
  rcases Nat.lt_or_ge k j with hk | hk
  · rw [List.eraseIdx_append_of_lt_length (by rw [List.length_take]; omega)]
  · rw [List.eraseIdx_of_length_le (by rw [List.length_append, List.length_take]; simp; omega), List.eraseIdx_of_length_le (by rw [List.length_take]; omega)]
theorem upTo_len (l : List (Int × Int)) (k j : Nat) : (upTo l k j).length ≤ l.length := by
  unfold upTo
  have := (List.eraseIdx_sublist (l.take j) k).length_le
  simp at this
  omega
set_option maxHeartbeats 400000 in
theorem refdrop_none {w : World} {base x : Nat} {vi vt : Value} {R : RS} (H : RefAt w base x vi vt R) (id : Int) (h1 : place R.l id < 0) (hm : R.l.length < 4611686018427387904) :
    Calls Try.prog 38 #[.pointer (some ⟨x, 0, none⟩), .int .i64 id] w fun e w' => e = .returned (.bool false) ∧ RefBehind w base x vi vt R w' := by
  have HH := hid H
  have HP := hid (ref_place H id hm)
  clear H
  generalize place R.l id = pl at *
  go_enter Try.func38, Try.ntmps38
  go_wp2_with (go_at_call 40; refine HP.out.mono ?_; rintro e w0 ⟨rfl, rfl⟩)
  go_ret
  exact ⟨rfl, RefBehind.same HH.out 0⟩
set_option maxHeartbeats 800000 in
set_option maxRecDepth 100000 in
theorem refdrop_some {w : World} {base x : Nat} {vi vt : Value} {room last : Nat} {l : List (Int × Int)} (H : RefAt w base x vi vt ⟨room, last, l⟩) (id : Int) (k : Nat) (h1 : place l id = k) (h4 : l.length ≤ 256) :
    Calls Try.prog 38 #[.pointer (some ⟨x, 0, none⟩), .int .i64 id] w fun e w' => e = .returned (.bool true) ∧ RefBehind w base x vi vt ⟨room, last, l.eraseIdx k⟩ w' := by
  have hpl := ref_place H id (by show l.length < _; omega)
  simp only [] at hpl
  rw [h1] at hpl
  have HP := hid hpl
  obtain ⟨Ai, ci, rfl⟩ := own_slice H.rows.a
  obtain ⟨At, ct, rfl⟩ := own_slice H.rows.b
  have HI := hid (own_holds H.rows.a)
  have HT := hid (own_holds H.rows.b)
  have hli : (ids l).length = l.length := by simp [ids]
  have hlt : (tks l).length = l.length := by simp [tks]
  obtain ⟨m, hm⟩ : ∃ m, m = l.length := ⟨_, rfl⟩
  have HH := hid H
  have hxl := blk_lt H.hx
  have c1 : w.cell? ⟨x, 1, none⟩ = some (.slice Ai m ci) := by rw [blk_cell H.hx 1]; simp [hli, hm]
  have c2 : w.cell? ⟨x, 2, none⟩ = some (.slice At m ct) := by rw [blk_cell H.hx 2]; simp [hlt, hm]
  rw [← hm] at h4
  have HM := hid hm
  have hkm : (k : Int) < l.length := by have := place_ge l id; omega
  rw [← hm] at hkm
  clear H hm hli hlt hpl h1
  obtain ⟨i0, hi, hz0, hz1, hz2⟩ := info_parts Try.info_int
  go_enter Try.func38, Try.ntmps38
  go_wp2_with (go_at_call 40; refine HP.out.mono ?_; rintro e w0 ⟨rfl, rfl⟩)
  go_loopw [6, 7, 8] (fun v6 v7 i wr => ∃ j : Nat, j ≤ m ∧ i = .int .i64 j ∧ Below w0.heap.size w0 wr ∧ Rows2 wr w0.heap.size v6 v7 (ids (upTo l k j)) (tks (upTo l k j))) (fun _ _ i _ => m - (intOf i).toNat)
  case atStart => exact ⟨0, by omega, rfl, Below.refl _ _, by simp [upTo, ids, tks]; exact Rows2.nil _ _⟩
  case round =>
    obtain ⟨j, hj, rfl, hb, hrows⟩ := hrel
    have c1r : wr.cell? ⟨x, 1, none⟩ = some (.slice Ai m ci) := (hb.cell hxl).trans c1
    have c2r : wr.cell? ⟨x, 2, none⟩ = some (.slice At m ct) := (hb.cell hxl).trans c2
    have HB := hid hb
    have HR := hid hrows
    by_cases hlt : j < m
    · obtain ⟨y, hy⟩ : ∃ y, l[j]? = some y := ⟨_, List.getElem?_eq_getElem (by have := HM.out; omega)⟩
      by_cases hjk : j = k
      · have hne : ((j : Int) == (k : Int)) = true := by simp [hjk]
        clear hb hrows hy
        go_wp2_with fail
        go_roundw
        case rel => exact ⟨j + 1, by omega, by go_num, HB.out, by have := HR.out; rw [hjk] at this ⊢; rw [upTo_eq]; exact this⟩
        case measure => simp [intOf]; omega
      · have hne : ((j : Int) == (k : Int)) = false := beq_eq_false_iff_ne.2 (by omega)
        obtain ⟨b1, o1, rfl, d1⟩ := HI.out j y.1 (ids_get hy)
        obtain ⟨b2, o2, rfl, d2⟩ := HT.out j y.2 (by simp [tks, hy])
        have e1 := (hb.cell (World.block_lt_of_cell? _ _ d1)).trans d1
        have e2 := (hb.cell (World.block_lt_of_cell? _ _ d2)).trans d2
        have hown := hrows.a
        have hla : (ids (upTo l k j)).length ≤ m := by have := upTo_len l k j; rw [HM.out]; simpa [ids] using this
        have hlb : (tks (upTo l k j)).length ≤ m := by have := upTo_len l k j; rw [HM.out]; simpa [tks] using this
        have hsz := hb.size
        have HU := hid (upTo_ne hy hjk)
        clear hy hb hrows
        generalize ha : ids (upTo l k j) = a at *
        generalize hb : tks (upTo l k j) = b at *
        have HA := hid ha
        have HBb := hid hb
        clear ha hb
        go_wp2_with (at_builtin; refine append_new rfl _ _ 22 rfl w0.heap.size 3 i0 _ 1 8 Try.underlying22 hi hz0 hz1 hz2 rfl (by decide) #[.int .i64 y.1] u6 a.length (intCells a) rfl _ rfl rfl hown rfl (one_one _) (by unfold maxLen; omega) (by omega) hsz ?_)
        intro v8 w1 hown1 hf1 hl1
        have hR1 := HR.out.pushA hown1 hf1 hl1
        have hb1 : Below w0.heap.size w0 w1 := ((Fr.of_below (S := NoB) HB.out).trans hf1 (fun k hk => .inr (own_ge HR.out.a k hk))).no
        have c2q : w1.cell? ⟨x, 2, none⟩ = some (.slice (some ⟨b2, o2, none⟩) m ct) := (hb1.cell hxl).trans c2
        have e2q := (hb1.cell (World.block_lt_of_cell? _ _ d2)).trans d2
        have hown2 := hR1.b
        have hsz1 := hb1.size
        have HR1 := hid hR1
        have HB1 := hid hb1
        clear hown1 hf1 hl1 hR1 hb1 hown c1r c2r e1 e2
        go_wp2_with (at_builtin; refine append_new rfl _ _ 22 rfl w0.heap.size 3 i0 _ 1 8 Try.underlying22 hi hz0 hz1 hz2 rfl (by decide) #[.int .i64 y.2] u7 b.length (intCells b) rfl _ rfl rfl hown2 rfl (one_one _) (by unfold maxLen; omega) (by omega) hsz1 ?_)
        intro v9 w2 hown3 hf2 hl2
        have HR2 := hid (HR1.out.pushB hown3 hf2 hl2)
        have HB2 := hid ((Fr.of_below (S := NoB) HB1.out).trans hf2 (fun k hk => .inr (own_ge HR1.out.b k hk))).no
        clear hown3 hf2 hl2 hown2 c2q e2q
        go_wp2_with fail
        go_roundw
        case rel =>
          refine ⟨j + 1, by omega, by go_num, HB2.out, ?_⟩
          rw [HU.out, show ids (upTo l k j ++ [y]) = ids (upTo l k j) ++ [y.1] by simp [ids], show tks (upTo l k j ++ [y]) = tks (upTo l k j) ++ [y.2] by simp [tks], HA.out, HBb.out]
          exact HR2.out
        case measure => simp [intOf]; omega
    · obtain rfl : j = m := by omega
      have hfin : upTo l k j = l.eraseIdx k := by unfold upTo; rw [HM.out, List.take_length]
      rw [hfin] at hrows
      have hx := (Fr.of_below (S := NoB) hb).blk HH.out.hx (fun h => h)
      have f1 : wr.frozen? ⟨x, 1, none⟩ = false := blk_free hx 1
      have f2 : wr.frozen? ⟨x, 2, none⟩ = false := blk_free hx 2
      have HR3 := hid hrows
      have HX := hid hx
      have hbx := HH.out.bx
      obtain ⟨A6, c6, h6⟩ := own_slice hrows.a
      obtain ⟨A7, c7, h7⟩ := own_slice hrows.b
      have H67 := hid (And.intro h6 h7)
      subst h6
      subst h7
      clear hb hrows HR hx
      go_wp2_with fail
      go_ret
      have hn : ∀ v : Value, ∀ l' : List Int, wr.ownsRow w0.heap.size 3 1 v l'.length (intCells l') → ∀ k, v.ownBlock = some k → ¬ One x k := fun v l' h k hk e => by have := own_ge h k hk; have e' : k = x := e; omega
      have hR4 := (HR3.out.kept ((Fr.refl (One x) wr).one 1 (.slice A6 (ids (l.eraseIdx k)).length c6)) (hn _ _ HR3.out.a) (hn _ _ HR3.out.b)).kept ((Fr.refl (One x) _).one 2 (.slice A7 (tks (l.eraseIdx k)).length c7)) (hn _ _ HR3.out.a) (hn _ _ HR3.out.b)
      have hle : base ≤ w0.heap.size := by omega
      refine ⟨rfl, (.slice A6 (ids (l.eraseIdx k)).length c6), (.slice A7 (tks (l.eraseIdx k)).length c7), ⟨?_, ⟨own_mono hR4.a hle, own_mono hR4.b hle, hR4.ap⟩, hbx, fun k hk => ?_⟩, (((Fr.of_below HB.out).set (p := ⟨x, 1, none⟩) (.inl (.inl rfl)) _).set (p := ⟨x, 2, none⟩) (.inl (.inl rfl)) _), fun k hk => ?_⟩
      · simpa using blk_set (blk_set HX.out 1 (.slice A6 (ids (l.eraseIdx k)).length c6)) 2 (.slice A7 (tks (l.eraseIdx k)).length c7)
      · exact hk.elim (hn _ _ HR3.out.a k) (hn _ _ HR3.out.b k)
      · rcases hk with hk | hk | hk
        · exact .inl (.inl hk)
        · exact .inr (own_ge HR3.out.a k hk)
        · exact .inr (own_ge HR3.out.b k hk)
theorem ref_drop {w : World} {base x : Nat} {vi vt : Value} {R : RS} (H : RefAt w base x vi vt R) (id : Int) (h4 : R.l.length ≤ 256) :
    Calls Try.prog 38 #[.pointer (some ⟨x, 0, none⟩), .int .i64 id] w fun e w' => e = .returned (.bool (decide (0 ≤ place R.l id))) ∧ RefBehind w base x vi vt ⟨R.room, R.last, dropL R.l id⟩ w' := by
  obtain ⟨room, last, l⟩ := R
  by_cases h : place l id < 0
  · have hd : dropL l id = l := by unfold dropL; rw [if_pos h]
    have he : decide (0 ≤ place l id) = false := decide_eq_false (by omega)
    simp only [hd, he]
    exact refdrop_none H id h (by omega)
  · have hd : dropL l id = l.eraseIdx (place l id).toNat := by unfold dropL; rw [if_neg h]
    have he : decide (0 ≤ place l id) = true := decide_eq_true (by omega)
    simp only [hd, he]
    exact refdrop_some H id _ (by omega) h4
theorem ref_drop_is {w : World} {base x : Nat} {vi vt : Value} {R R' : RS} (H : RefAt w base x vi vt R) (id : Int) (h4 : R.l.length ≤ 256) {b : Bool} (hb : decide (0 ≤ place R.l id) = b) (hp : (⟨R.room, R.last, dropL R.l id⟩ : RS) = R') :
    Calls Try.prog 38 #[.pointer (some ⟨x, 0, none⟩), .int .i64 id] w fun e w' => e = .returned (.bool b) ∧ RefBehind w base x vi vt R' w' := by
  have := ref_drop H id h4
  rwa [hb, hp] at this
set_option maxHeartbeats 400000 in
theorem ref_take {w : World} {base x : Nat} {vi vt : Value} {R : RS} (H : RefAt w base x vi vt R) (h4 : R.l.length ≤ 256) {a : Int} {b : Bool} (ha : headOf R.l = a) (hb : (!R.l.isEmpty) = b) :
    Calls Try.prog 37 #[.pointer (some ⟨x, 0, none⟩)] w fun e w' => e = .returned (.tuple #[.int .i64 a, .bool b]) ∧ RefBehind w base x vi vt (takeR R) w' := by
  obtain ⟨room, last, l⟩ := R
  have HH := hid H
  cases l with
  | nil =>
    subst ha; subst hb
    obtain ⟨Ai, ci, rfl⟩ := own_slice H.rows.a
    have c1 : w.cell? ⟨x, 1, none⟩ = some (.slice Ai 0 ci) := blk_cell H.hx 1
    clear H
    go_enter Try.func37, Try.ntmps37
    go_wp2_with fail
    go_ret2
    exact ⟨rfl, RefBehind.same HH.out 0⟩
  | cons y l =>
    subst ha; subst hb
    have hpl : place (y :: l) y.1 = ((0 : Nat) : Int) := place_hit (y :: l) y.1 0 y (fun j q hj => by omega) rfl rfl
    have HD := hid (ref_drop_is H y.1 h4 (b := true) (R' := ⟨room, last, l⟩) (by show decide (0 ≤ place (y :: l) y.1) = true; rw [hpl]; rfl) (by show (⟨room, last, dropL (y :: l) y.1⟩ : RS) = _; unfold dropL; rw [hpl]; rfl))
    obtain ⟨Ai, ci, rfl⟩ := own_slice H.rows.a
    obtain ⟨g, o, rfl, d1⟩ := own_holds H.rows.a 0 y.1 rfl
    rw [Nat.add_zero] at d1
    obtain ⟨m, hm⟩ : ∃ m, m = l.length := ⟨_, rfl⟩
    have c1 : w.cell? ⟨x, 1, none⟩ = some (.slice (some ⟨g, o, none⟩) (m + 1) ci) := by rw [blk_cell H.hx 1]; simp [ids, hm]
    clear H hpl
    go_enter Try.func37, Try.ntmps37
    go_wp2_with (go_at_call 38; refine HD.out.mono ?_; rintro e w1 ⟨rfl, hB⟩)
    go_ret2
    exact ⟨rfl, hB⟩
end Go.Proofs.Ytcbpbgjngeemoaa
