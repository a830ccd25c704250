/- RingDrops: who is dropped leaves the others in their order, with their tickets; dropping the first one is taking it: the walk. Whatever ids. -/
import Derived.Test.YtcbpbgjngeemoaaRef04
import Derived.Deep.CutBlock
import Derived.Deep.DeepCutAuto
set_option linter.unusedVariables false
set_option linter.unusedSimpArgs false
namespace Go.Proofs.Ytcbpbgjngeemoaa
open Go.RowKit
/-- 'append(s, xs...)' where xs lie somewhere, as a step of a region that draws. -/
theorem step_append_own {P : Program} {w : World} {ops : Array Oper} {o : Oper} {a : Act} {K : Act → World → Prop} {Q : Exit → Act → World → Prop} {E : Prop} (hgd : o.guard = none) (s x : Operand) (t : TypeId)
    (ho : o.op = .call { callee := .builtin .append, args := #[s, x], argTypes := #[t, t] })
    (base : Nat) (e : TypeId) (i : TypeInfo) (z : Value) (size bytes : Nat) (ht : P.underlying t = some (.slice e)) (hi : P.info? e = some i) (hz : i.zero = some z)
    (hsize : i.size = size) (hby : i.bytes = bytes) (hzs : z.cells.size = size) (hsz : 0 < size)
    (v : Value) (n : Nat) (xs : List Value) (hs : a.eval s = v) (hown : w.ownsRow base e size v n xs) (ad : Addr) (m c : Nat) (hx : a.eval x = .slice (some ad) m c)
    (news : List Value) (hl : news.length = m * size) (hnews : ∀ j u, news[j]? = some u → w.cell? (ad.add j) = some u) (h1 : ∀ u ∈ news, u.oneCell' = true)
    (h63 : n + m ≤ maxLen) (hbytes : (n + m) * bytes ≤ 140737488355328) (hbase : base ≤ w.heap.size)
    (hK : ∀ v' w', w'.ownsRow base e size v' (n + m) (xs ++ news) → Fr (fun k => v.ownBlock = some k) w w' → K (a.put o.dst v') w') :
    if Region.wanted o (yielded ops a.tmps) = true then Oper.wp P o a w K Q else E := by
  have hw : Region.wanted o (yielded ops a.tmps) = true := by simp [Region.wanted, hgd]
  rw [if_pos hw]
  obtain ⟨v', w', hr, h2, h3, _, h5⟩ := run_append_own_at (P := P) w base t o.type e i z size bytes ht hi hz hsize hby hzs hsz v n xs hown ad m c news hl hnews h1 h63 hbytes hbase
  unfold Oper.wp
  simp [execOp, ho, resolve, invoke, builtin, hs, hx, hr, Result.andThen]
  exact hK v' w' h2 ((Fr.refl _ w).grown h3 (fun k hk => .inl hk))

theorem RInv.ofTake {m : Nat} {L : Int} {room last : Nat} {x : Int × Int} {l : List (Int × Int)} (h : RInv m L 0 ⟨room, last, x :: l⟩) :
    (⟨room, last, dropL (x :: l) x.1⟩ : RS) = ⟨room, last, l⟩ ∧ decide (0 ≤ place (x :: l) x.1) = true ∧ takeR ⟨room, last, x :: l⟩ = ⟨room, last, l⟩ ∧ headOf (x :: l) = x.1 ∧ l.Pairwise (fun p q => p.1 ≠ q.1 ∧ p.2 < q.2) := by
  have hp : place (x :: l) x.1 = ((0 : Nat) : Int) := pw_place (k := 0) h.pw rfl
  refine ⟨?_, ?_, rfl, rfl, (List.pairwise_cons.1 h.pw).2⟩
  · unfold dropL
    rw [if_neg (by omega), hp]
    rfl
  · rw [hp]; rfl
attribute [local irreducible] putR place ticketOf headOf takeR dropL pickN

theorem rest_cell {w : World} {base g n cap j : Nat} {e : TypeId} {x : Int × Int} {l : List (Int × Int)} {u : Value} (h : w.ownsRow base e 1 (.slice (some ⟨g, 0, none⟩) n cap) n (intCells (ids (x :: l)))) (hj : (intCells (ids l))[j]? = some u) : w.cell? ⟨g, 1 + j, none⟩ = some u :=
  own_cell h (by rw [Nat.add_comm]; simpa [intCells, ids] using hj)
theorem rest_front {w : World} {base g n cap k : Nat} {e : TypeId} {x : Int × Int} {l : List (Int × Int)} (h : w.ownsRow base e 1 (.slice (some ⟨g, 0, none⟩) n cap) n (intCells (ids (x :: l)))) :
    ∀ j u, (intCells (ids (l.take k)))[j]? = some u → w.cell? ((⟨g, 1, none⟩ : Addr).add j) = some u := by
  intro j u hj
  rw [add_off]
  refine rest_cell h ?_
  simp only [intCells, ids, List.map_take, List.getElem?_take] at hj ⊢
  split at hj
  · exact hj
  · cases hj
theorem rest_back {w : World} {base g n cap k c : Nat} {e : TypeId} {x : Int × Int} {l : List (Int × Int)} (h : w.ownsRow base e 1 (.slice (some ⟨g, 0, none⟩) n cap) n (intCells (ids (x :: l)))) (hc : l.length ≤ c) :
    ∃ A, (if c = k + 1 then some (⟨g, 1, none⟩ : Addr) else some ⟨g, 1 + (k + 1), none⟩) = some A ∧ ∀ w' : World, w'.ownsRow base e 1 (.slice (some ⟨g, 0, none⟩) n cap) n (intCells (ids (x :: l))) → ∀ j u, (intCells (ids (l.drop (k + 1))))[j]? = some u → w'.cell? (A.add j) = some u := by
  by_cases hk : c = k + 1
  · rw [if_pos hk]
    refine ⟨_, rfl, fun w' _ j u hj => ?_⟩
    rw [List.drop_eq_nil_of_le (by omega)] at hj
    simp [intCells, ids] at hj
  · rw [if_neg hk]
    refine ⟨_, rfl, fun w' h' j u hj => ?_⟩
    rw [add_off]
    have := rest_cell (j := k + 1 + j) (u := u) h' (by simpa [intCells, ids] using hj)
    rwa [← Nat.add_assoc] at this
theorem ids_append (a b : List (Int × Int)) : intCells (ids (a ++ b)) = intCells (ids a) ++ intCells (ids b) := by simp [intCells, ids]
theorem cells_one (l : List Int) : ∀ u ∈ intCells l, u.oneCell' = true := by
  intro u hu
  simp only [intCells, List.mem_map] at hu
  obtain ⟨p, _, rfl⟩ := hu
  rfl
theorem ids_len (l : List (Int × Int)) : (intCells (ids l)).length = l.length := by simp [intCells, ids]

set_option maxRecDepth 1000000 in
set_option maxHeartbeats 3200000 in
theorem ringdrops_walk {w : World} (A : Option Addr) (len cap : Nat) (which : Int) (hlen : len ≤ 9223372036854775807) (z : Nat → Int) (hz : Ints w A len z) (hw0 : -9223372036854775808 ≤ which) (hw1 : which ≤ 9223372036854775807) :
    Calls Try.prog 9 #[.slice A len cap, .int .i64 which] w fun e w' => e = .returned (.bool true) ∧ Below w.heap.size w w' := by
  have HZ := hid hz
  clear hz
  go_enter Try.func9, Try.ntmps9
  go_wp2_with fail
  refine ringex_any.mono ?_
  rintro e w1 ⟨rfl, hb1⟩
  go_wp2_with fail
  refine (new_yes 256 (by omega)).mono ?_
  rintro e w2 ⟨r, s, rfl, H0, hb2, hr, hs⟩
  have hlt2 := H0.lt
  go_wp2_with fail
  refine (new_yes 256 (by omega)).mono ?_
  rintro e w3 ⟨r2, s2, rfl, H02, hb3, hr2, hs2⟩
  have hsz := hb1.size
  have hsz2 := hb2.size
  have HA := hid (RR.mk (below_then (below_then hb1 hb2) hb3) (H0.kept (fr0 hb3) (fun h => h) (fun h => h)) H02 ⟨by omega, by omega, by omega, by omega⟩ ⟨by omega, by omega, by omega, by omega⟩)
  have HI := hid (RInv.mk (m := 256) (L := 0) (T := 0) (R := ⟨256, 0, []⟩) rfl rfl (by simp) (by simp) (by omega))
  clear H0 H02 hb1 hb2 hb3 hr hs hr2 hs2 hsz hsz2 hlt2
  go_upto_block 0 with fail
  go_cut [5] (fun h wr => ∃ (R : RS) (L : Int), h = .bool true ∧ RR w wr r s r2 s2 R R ∧ Hid (RInv 256 L 0 R) ∧ (R.l = [] → len = 0))
  case first =>
    as_aux_lemma =>
      go_wp2_with fail
      go_loopw [10] (fun i wr => ∃ (k : Nat) (R : RS) (L : Int), k ≤ len ∧ k ≤ 60 ∧ i = .int .i64 k ∧ RR w wr r s r2 s2 R R ∧ Hid (RInv 256 L 0 R ∧ L ≤ k ∧ (k ≠ 0 → R.l ≠ []))) (fun i _ => 60 - (intOf i).toNat)
      case atStart => exact ⟨0, _, 0, by omega, by omega, rfl, HA.out, HI.out, by omega, fun h => absurd rfl h⟩
      case round =>
        obtain ⟨k, R, L, hk1, hk2, rfl, hI, hV⟩ := hrel
        by_cases h1 : k < len
        · by_cases h2 : k < 60
          · skip
            obtain ⟨ab, ao, rfl, hbl, hcs, _, _⟩ := HZ.out k h1
            have c0 : wr.cell? ⟨ab, ao + k, none⟩ = some (.int .i64 (z k)) := (hI.below.cell hbl).trans hcs
            generalize z k = y at *
            obtain ⟨a, b, R', hp, hcase⟩ := hV.out.1.put y
            have hlast : R.last < 4611686018427387904 := by have := hV.out.1.last; have := hV.out.2.1; omega
            have hne := hid (putR_ne hp (by have := hV.out.1.room; omega))
            have HP := hid hp
            have HC := hid hcase
            have HI := hid hI
            clear hp hcase hI hcs
            go_wp2_with fail
            refine (ring_put_is HI.out.a y hlast HP.out).mono ?_
            rintro e w4 ⟨rfl, hR4, hF4⟩
            have c1 : w4.cell? ⟨ab, ao + k, none⟩ = some (.int .i64 y) := hF4.cell c0 (fun h => by rcases h with h | h <;> have := HI.out.lo <;> simp at h <;> omega)
            have HI4 := hid (HI.out.stepA hR4 hF4)
            clear hR4 hF4 c0
            go_wp2_with fail
            refine (ring_put_is HI4.out.b y hlast HP.out).mono ?_
            rintro e w5 ⟨rfl, hR5, hF5⟩
            have HI5 := hid (HI4.out.stepB hR5 hF5)
            clear hR5 hF5 c1
            have HV2 : ∃ L', Hid (RInv 256 L' 0 R' ∧ L' ≤ ((k + 1 : Nat) : Int) ∧ (k + 1 ≠ 0 → R'.l ≠ [])) := by
              have h3 := hV.out.2.1
              rcases HC.out with ⟨_, _, hi⟩ | ⟨_, _, hi⟩
              · exact ⟨_, hi, by omega, fun _ => hne.out⟩
              · exact ⟨_, hi, by omega, fun _ => hne.out⟩
            obtain ⟨L', HV2⟩ := HV2
            go_wp2_with fail
            go_roundw
            case rel => exact ⟨k + 1, R', L', by omega, by omega, by go_num, HI5.out, HV2⟩
            case measure => simp [intOf]; omega
          · have HI := hid hI
            clear hI
            go_wp2_with fail
            go_meet
            exact ⟨R, L, rfl, HI.out, hV.out.1, fun h => absurd h (hV.out.2.2 (by omega))⟩
        · have HI := hid hI
          clear hI
          go_wp2_with fail
          go_meet
          exact ⟨R, L, rfl, HI.out, hV.out.1, fun h => by
            by_cases h0 : k = 0
            · omega
            · exact absurd h (hV.out.2.2 h0)⟩
  obtain ⟨R, L, rfl, hI, hV, hE⟩ := hcut
  have HI := hid hI
  clear hI
  go_wp2_with fail
  refine (ring_all HI.out.a).mono ?_
  rintro e w5 ⟨v, rfl, hb5, hown, hnil⟩
  have HI5 := hid (HI.out.later hb5)
  clear hb5
  rcases R with ⟨room, last, _ | ⟨x, l⟩⟩
  · have hv := hnil rfl
    subst hv
    clear hown hnil
    obtain rfl : len = 0 := hE rfl
    go_wp2_with fail
    go_ret
    exact ⟨rfl, HI5.out.below⟩
  · obtain ⟨T1, T2, T3, T4, T5⟩ := hV.out.ofTake
    have HT1 := hid T1
    have HT2 := hid T2
    have HT3 := hid T3
    have HT4 := hid T4
    have HT5 := hid T5
    clear T1 T2 T3 T4 T5 hE hnil hV
    have hn : (ids (x :: l)).length = l.length + 1 := by simp [ids]
    have hn256 : l.length + 1 ≤ 256 := by have := HI.out.a.len; simp at this; omega
    obtain ⟨n, hnn⟩ : ∃ n, n = l.length := ⟨_, rfl⟩
    rw [hn, ← hnn] at hown
    rw [← hnn] at hn256
    obtain ⟨g, gc, cur, rfl, hg1, _, hg3, hg4, _⟩ := own_shape hown (by omega)
    have hgr : ∀ b, (Value.slice (some ⟨g, 0, none⟩) (n + 1) gc).ownBlock = some b → ¬ Two r s b ∧ ¬ Two r2 s2 b := by
      intro b hb
      have h1 := HI.out.a.lt
      have h2 := HI.out.b.lt
      have h3 := own_ge hown b hb
      exact ⟨fun h => by rcases h with h | h <;> omega, fun h => by rcases h with h | h <;> omega⟩
    have HG := hid hgr
    have HO := hid hown
    have HN := hid hnn
    have c0 : w5.cell? ⟨g, 0, none⟩ = some (.int .i64 x.1) := own_cell hown (j := 0) rfl
    clear hown hgr hnn hn hg1
    go_wp2_with fail
    refine (ring_take_is HI5.out.a HT4.out rfl).mono ?_
    rintro e w6 ⟨rfl, hR6, hF6⟩
    rw [HT3.out] at hR6
    have HI6 := hid (HI5.out.stepA hR6 hF6)
    have HO6 := hid (own_kept HO.out hF6 (fun b hb => (HG.out b hb).1))
    have c06 : w6.cell? ⟨g, 0, none⟩ = some (.int .i64 x.1) := own_cell HO6.out (j := 0) rfl
    clear hR6 hF6 c0
    go_wp2_with fail
    refine (ring_drop_is HI6.out.b x.1 HT2.out HT1.out).mono ?_
    rintro e w7 ⟨rfl, hR7, hF7⟩
    have HI7 := hid (HI6.out.stepB hR7 hF7)
    have HO7 := hid (own_kept HO6.out hF7 (fun b hb => (HG.out b hb).2))
    clear hR7 hF7 c06
    go_wp2_with fail
    refine (ring_all HI7.out.a).mono ?_
    rintro e w8 ⟨v8, rfl, hb8, hown8, _⟩
    obtain ⟨A8, c8, rfl⟩ := own_slice hown8
    have HI8 := hid (HI7.out.later hb8)
    have HO8 := hid (own_kept HO7.out (fr0 hb8) (fun _ _ h => h))
    have HW8 := hid hown8
    clear hb8 hown8
    go_wp2_with fail
    refine (ring_all HI8.out.b).mono ?_
    rintro e w9 ⟨v9, rfl, hb9, hown9, _⟩
    obtain ⟨A9, c9, rfl⟩ := own_slice hown9
    have HI9 := hid (HI8.out.later hb9)
    have HO9 := hid (own_kept HO8.out (fr0 hb9) (fun _ _ h => h))
    have HW89 := hid (own_kept HW8.out (fr0 hb9) (fun _ _ h => h))
    have HW9 := hid hown9
    have HNl : (ids l).length < 4611686018427387904 := by have := HN.out; simp [ids]; omega
    clear hb9 hown9
    go_wp2_with fail
    refine (numbers_same A8 A9 _ c8 c9 (ids l) rfl (own_holds HW89.out) (own_holds HW9.out) HNl).mono ?_
    rintro e w10 ⟨rfl, q10, rfl⟩
    have HI10 := hid (HI9.out.drewN q10)
    have HO10 := hid (own_drewN HO9.out q10)
    have c0 : w9.cell? ⟨g, 0, none⟩ = some (.int .i64 x.1) := own_cell HO9.out (j := 0) rfl
    clear HNl HW8 HW89 HW9
    by_cases hn0 : n = 0
    · subst hn0
      obtain rfl : l = [] := List.length_eq_zero_iff.1 HN.out.symm
      go_wp2_with fail
      all_goals
        refine (ring_len HI10.out.a).mono ?_
        rintro e w11 ⟨rfl, rfl⟩
        go_wp2_with fail
        go_ret
        exact ⟨rfl, HI10.out.below⟩
    · obtain ⟨m, rfl⟩ : ∃ m, n = m + 1 := ⟨n - 1, by omega⟩
      obtain ⟨c1, rfl⟩ : ∃ c1, gc = c1 + 1 := ⟨gc - 1, by omega⟩
      have hc10 : ¬ (c1 = 0) := by omega
      have hc11 : (1 : Int) ≤ (m : Int) + 1 + 1 := by omega
      go_wp2_with fail
      have hK := pickN_bd which ((m : Int) + 1) (by omega)
      obtain ⟨k, hk⟩ : ∃ k : Nat, pickN which ((m : Int) + 1) = k := ⟨(pickN which ((m : Int) + 1)).toNat, by omega⟩
      refine (ringpick_any which ((m : Int) + 1) hw0 hw1 (by omega) (by omega)).mono ?_
      rintro e w11 ⟨rfl, rfl⟩
      rw [hk]
      rw [hk] at hK
      clear hk
      obtain ⟨y, hy⟩ : ∃ y, l[m]? = some y := ⟨_, List.getElem?_eq_getElem (by have := HN.out; omega)⟩
      obtain ⟨zk, hzk⟩ : ∃ zk, l[k]? = some zk := ⟨_, List.getElem?_eq_getElem (by have := HN.out; omega)⟩
      have TY := hid (pw_ticket HT5.out hy)
      have PZ := pw_place HT5.out hzk
      have DZ : dropL l zk.1 = l.eraseIdx k := by unfold dropL; rw [if_neg (by omega), PZ]; rfl
      have cy : w9.cell? ⟨g, 1 + m, none⟩ = some (.int .i64 y.1) := rest_cell HO9.out (by simp [intCells, ids, hy])
      have cz : w9.cell? ⟨g, 1 + k, none⟩ = some (.int .i64 zk.1) := rest_cell HO9.out (by simp [intCells, ids, hzk])
      have hWm : IntKind.i64.wrap ((m : Int) + 1 - 1) = m := by rw [show (m : Int) + 1 - 1 = m by omega]; exact wraps_i64 _ (by omega) (by omega)
      have HY := hid hy
      have HZk := hid hzk
      have HPZ := hid PZ
      have HDZ := hid DZ
      clear hy hzk PZ DZ
      go_wp2_with fail
      refine (ring_ticket_is HI10.out.a y.1 TY.out).mono ?_
      rintro e w12 ⟨rfl, q12, rfl⟩
      go_wp2_with fail
      refine (ring_drop_is (HI9.out.a.drewN (q10 + q12)) zk.1 (b := true) (by rw [HPZ.out]; simp) (congrArg (RS.mk room last) HDZ.out)).mono ?_
      rintro e w13 ⟨rfl, hR13, hF13⟩
      have HI13 := hid ((HI9.out.drewN (q10 + q12)).stepA hR13 hF13)
      have HO13 := hid (own_kept (own_drewN HO9.out (q10 + q12)) hF13 (fun b hb => (HG.out b hb).1))
      clear hR13 hF13 cy cz
      obtain ⟨Ar, hAr, hNb⟩ := rest_back (k := k) (c := c1) HO13.out (by have := HN.out; omega)
      have HNb := hid hNb
      have hNf := hid (rest_front (k := k) HO13.out)
      have hk0 : (0 : Int) ≤ (k : Int) := by omega
      have hk2 : (k : Int) ≤ (c1 : Int) := by omega
      have hk3 : (0 : Int) ≤ (k : Int) + 1 := by omega
      have hk4 : (k : Int) + 1 ≤ (m : Int) + 1 := by omega
      have hk5 : (m : Int) + 1 ≤ (c1 : Int) := by omega
      have e1 : IntKind.i64.wrap ((k : Int) + 1) = (k : Int) + 1 := wraps_i64 _ (by omega) (by omega)
      have e2 : ((k : Int) + 1).toNat = k + 1 := by omega
      have hL1 := hid (show (intCells (ids (l.take k))).length = k * 1 by rw [ids_len, List.length_take, ← HN.out]; omega)
      have hL2 := hid (show (intCells (ids (l.drop (k + 1)))).length = (m - k) * 1 by rw [ids_len, List.length_drop, ← HN.out, Nat.mul_one]; omega)
      have hEl := hid (show k + (m - k) = (ids (l.eraseIdx k)).length by simp only [ids, List.length_map]; rw [List.length_eraseIdx_of_lt (by have := HN.out; omega), ← HN.out]; omega)
      have hEb : (ids (l.eraseIdx k)).length < 4611686018427387904 := by rw [← hEl.out]; omega
      clear hNb
      obtain ⟨i0, hi, hz0, hz1, hz2⟩ := info_parts Try.info_int
      go_upto_region 26 with fail
      go_region_law (first
        | (refine step_append_own rfl _ _ 22 rfl w13.heap.size 3 i0 _ 1 8 Try.underlying22 hi hz0 hz1 hz2 rfl (by decide) (.slice none 0 0) 0 [] (by simp [Act.eval, Act.put]) (World.ownsRow_nil _ _ _ _) ⟨g, 1, none⟩ k c1 (by simp [Act.eval, Act.put]) (intCells (ids (l.take k))) hL1.out hNf.out (cells_one _) (by unfold maxLen; omega) (by omega) (Nat.le_refl _) ?_
           intro v14 w14 hO14 hF14
           rw [Nat.zero_add, List.nil_append] at hO14
           have HO14 := hid hO14
           have HF14 := hid (fr0 (hF14.to_below (fun _ h => by cases h)))
           clear hO14 hF14)
        | (refine step_append_own rfl _ _ 22 rfl w13.heap.size 3 i0 _ 1 8 Try.underlying22 hi hz0 hz1 hz2 rfl (by decide) v14 k _ (by simp [Act.eval, Act.put]) HO14.out Ar (m - k) (c1 - (k + 1)) (by simp [Act.eval, Act.put]) (intCells (ids (l.drop (k + 1)))) hL2.out (HNb.out _ (own_kept (w := w13.drew) HO13.out HF14.out (fun _ _ h => h))) (cells_one _) (by unfold maxLen; omega) (by omega) HF14.out.size ?_
           intro v15 w15 hO15 hF15
           rw [← ids_append, ← List.eraseIdx_eq_take_drop_succ, hEl.out] at hO15
           have HO15 := hid hO15
           have HF15 := hid hF15
           clear hO15 hF15))
      have HI15 := hid (HI13.out.later ((((Fr.refl NoB w13).drew).trans HF14.out (fun _ h => h.elim)).trans HF15.out (fun b hb => .inr (own_ge HO14.out b hb))).no)
      obtain ⟨A15, c15, rfl⟩ := own_slice HO15.out
      have HEb := hid hEb
      clear hEb
      go_wp2_with fail
      refine (ring_all HI15.out.a).mono ?_
      rintro e w16 ⟨v16, rfl, hb16, hown16, _⟩
      obtain ⟨A16, c16, rfl⟩ := own_slice hown16
      have HI16 := hid (HI15.out.later hb16)
      have HO16 := hid (own_holds (own_kept HO15.out (fr0 hb16) (fun _ _ h => h)))
      have HW16 := hid (own_holds hown16)
      have HO17 := hid (own_kept (own_kept HO13.out (((((Fr.refl NoB w13).drew).trans HF14.out (fun _ h => h.elim)).trans HF15.out (fun b hb => .inr (own_ge HO14.out b hb)))) (fun _ _ h => h)) (fr0 hb16) (fun _ _ h => h))
      clear hb16 hown16
      go_wp2_with fail
      refine (numbers_same A15 A16 _ c15 c16 (ids (l.eraseIdx k)) rfl HO16.out HW16.out HEb.out).mono ?_
      rintro e w17 ⟨rfl, q17, rfl⟩
      by_cases hkm : k = m
      · subst hkm
        go_wp2_with fail
        go_ret
        exact ⟨rfl, below_drewN' HI16.out.below q17⟩
      · have hkm2 : ((k : Int) == (m : Int)) = false := beq_eq_false_iff_ne.2 (by omega)
        have TY2 := hid (pw_ticket (HT5.out.sublist (List.eraseIdx_sublist l k)) (k := m - 1) (x := y) (by rw [List.getElem?_eraseIdx_of_ge (by omega), show m - 1 + 1 = m by omega]; exact HY.out))
        have cy : w16.cell? ⟨g, 1 + m, none⟩ = some (.int .i64 y.1) := rest_cell HO17.out (by simp [intCells, ids, HY.out])
        go_wp2_with fail
        refine (ring_ticket_is (HI16.out.a.drewN q17) y.1 TY2.out).mono ?_
        rintro e w18 ⟨rfl, q18, rfl⟩
        go_wp2_with fail
        go_ret
        exact ⟨rfl, below_drewN' HI16.out.below _⟩
end Go.Proofs.Ytcbpbgjngeemoaa
