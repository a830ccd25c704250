/- Package heap: All (contract): the ids, in order. -/
import Derived.Test.YtbkjlohlfkokpaaHeapIt2
import Derived.Test.YtbkjlohlfkokpaaSortK
import Derived.Test.YtbkjlohlfkokpaaShelf2
set_option linter.unusedVariables false
set_option linter.unusedSimpArgs false
namespace Go.Proofs.Ytbkjlohlfkokpaa
open Go.RowKit Go.Sort

theorem total_in {S : List It} (h : S.Pairwise ltI) {x y : It} (hx : x ∈ S) (hy : y ∈ S) (hne : x ≠ y) : ltI x y ∨ ltI y x := by
  obtain ⟨i, hi, rfl⟩ := List.getElem_of_mem hx
  obtain ⟨j, hj, rfl⟩ := List.getElem_of_mem hy
  rcases Nat.lt_trichotomy i j with h1 | h1 | h1
  · exact .inl (List.pairwise_iff_getElem.1 h i j hi hj h1)
  · subst h1; exact absurd rfl hne
  · exact .inr (List.pairwise_iff_getElem.1 h j i hj hi h1)
theorem ltOf_cmpI (x y : It) : ltOf cmpI x y = decide (ltI x y) := by
  unfold ltOf
  exact cmpI_dec x y
theorem swo_cmpI : SWO (ltOf cmpI) where
  irrefl x := by rw [ltOf_cmpI]; simp [ltI]
  trans x y z h1 h2 := by rw [ltOf_cmpI] at *; simp only [decide_eq_true_eq] at *; exact ltI_trans h1 h2
  ntrans x y z h1 h2 := by rw [ltOf_cmpI] at *; simp only [decide_eq_false_iff_not] at *; unfold ltI at *; omega
/-- Of what is sorted there is one order alone. -/
theorem sorted_is {S : List It} {d d' : Array It} (hs : S.Pairwise ltI) (hnd : (ids S).Nodup) (hp : d.toList.Perm S) (h1 : PermIn 0 d.size d d') (h2 : SortedIn (ltOf cmpI) 0 d.size d') : d'.toList = S := by
  have hp2 := (perm_of_permIn h1).trans hp
  have hsn : S.Nodup := by
    have h := hnd
    unfold ids at h
    rw [List.Nodup, List.pairwise_map] at h
    exact h.imp (fun h e => h (by rw [e]))
  have hdn : d'.toList.Nodup := hp2.symm.nodup hsn
  have hsz : d'.size = d.size := h1.1
  refine one_order ltI (fun x y h => ltI_asymm h) _ _ hp2 ?_ hs
  rw [List.pairwise_iff_getElem]
  intro i j hi hj hij
  have hi' : i < d'.size := by simpa using hi
  have hj' : j < d'.size := by simpa using hj
  have hso := h2 i j (Nat.zero_le _) hij (by omega)
  rw [getElem!_pos d' i hi', getElem!_pos d' j hj', ltOf_cmpI] at hso
  have hne : d'.toList[i] ≠ d'.toList[j] := fun e => by
    have := (List.getElem_inj hdn).1 e
    omega
  rcases total_in hs (hp2.subset (List.getElem_mem hi)) (hp2.subset (List.getElem_mem hj)) hne with h | h
  · exact h
  · rw [Array.getElem_toList, Array.getElem_toList] at h
    exact absurd h (of_decide_eq_false hso)
section
variable {w : World}
theorem Try.isAgg_item (w : World) : (isAgg 99).run Try.prog w = .ok true w := by kernel_rfl
theorem Try.sizeOf_item (w : World) : (Go.sizeOf 99).run Try.prog w = .ok 3 w := by kernel_rfl
theorem item_lays (g size : Nat) (w : World) : CmpLays Try.prog 75 #[] encI 3 cmpI g 0 size w := by
  intro m os dk hs x y
  refine (item_cmp (w := sortWorldK encI 3 w g 0 m dk os) x y).mono ?_
  rintro e w' ⟨he, hg⟩
  exact ⟨he, hg.grow⟩
/-- The sort of a row of items of one's own. -/
theorem sort_items {S a : List It} {v : Value} {base : Nat} (hown : w.ownsRow base 99 3 v a.length (flat encI a)) (hp : a.Perm S) (hs : S.Pairwise ltI) (hnd : (ids S).Nodup) (hlen : a.length < 1000000) :
    Calls Try.prog 95 #[v, .func (.func 75) #[] #[]] w fun e w' => e = .returned (.tuple #[]) ∧ w'.ownsRow base 99 3 v S.length (flat encI S) ∧ Fr (fun k => v.ownBlock = some k) w w' := by
  rcases Nat.eq_zero_or_pos a.length with hz | hpos
  · have ha : a = [] := List.length_eq_zero_iff.1 hz
    subst ha
    have hS : S = [] := List.nil_perm.1 hp
    subst hS
    obtain ⟨A, cap, rfl⟩ := own_slice hown
    refine (AnyF.slices_SortFunc_none Try.itemSort A cap (.func (.func 75) #[] #[]) w).mono ?_
    rintro e w' ⟨he, rfl⟩
    exact ⟨he, hown, Fr.refl _ _⟩
  · obtain ⟨g, cap, cur, rfl, hb, hg, _⟩ := own_shape hown hpos
    have hd : a.toArray.size = a.length := by simp
    have hH : HoldsK encI 3 w g 0 a.toArray := holdsK_of_own encI_len hd.symm (by simpa using hown)
    have h := AnyQ.slices_SortFunc Try.itemSort 3 Try.isAgg_item Try.sizeOf_item encI encI_len encI_one cmpI swo_cmpI 75 #[] g 0 cap a.toArray w (enters_of Try.func75 (by kernel_rfl) rfl) (item_lays g a.toArray.size w) hH (blk_lt hg) (by rw [hd]; omega)
    rw [hd] at h
    refine h.mono ?_
    rintro e w' ⟨he, d', m, os, h1, h2, rfl⟩
    have hd' : d'.toList = S := sorted_is hs hnd (by simpa using hp) (by rw [hd]; exact h1) (by rw [hd]; exact h2)
    have hsz : d'.size = a.length := by rw [h1.1, hd]
    have hSl : S.length = a.length := hp.length_eq.symm
    refine ⟨he, ?_, (fr_sortWorldK w g m d' os).mono (fun x hx => .inl (by rw [show x = g from hx]; rfl))⟩
    have hr := own_sortedK encI_len hown hpos d' hsz m os
    rw [hd'] at hr
    rw [hSl]
    exact hr
theorem collect_items (Bs : Nat) (v : Value) (a : List It) (hlen : a.length < 1000000) (hBs : Bs < w.heap.size) (hc : w.cell? ⟨Bs, 0, none⟩ = some v) (hI : ItemsAt w.heap.size w v a) :
    Calls Try.prog 94 #[.func (.func 96) #[] #[.pointer (some ⟨Bs, 0, none⟩)]] w fun e w' =>
      ∃ u, e = .returned u ∧ w'.ownsRow w.heap.size 99 3 u a.length (flat encI a) ∧ Below w.heap.size w w' := by
  have HAP := hid (callsIn_wide.1 (appendSeq_items (w := w) 5 (by omega) Bs v a hlen hBs hc hI))
  clear hc hI
  go_enter Try.func94, Try.ntmps94
  go_wp2_with fail
  refine HAP.out.mono ?_
  rintro e w' ⟨u, rfl, hu, hb⟩
  have HU := hid hu
  have HB := hid hb
  clear hu hb
  go_wp2_with fail
  go_ret
  exact ⟨u, rfl, HU.out, HB.out⟩
theorem sorted_items {S a : List It} (Bs : Nat) (v : Value) (hlen : a.length < 1000000) (hBs : Bs < w.heap.size) (hc : w.cell? ⟨Bs, 0, none⟩ = some v) (hI : ItemsAt w.heap.size w v a) (hp : a.Perm S) (hs : S.Pairwise ltI) (hnd : (ids S).Nodup) :
    Calls Try.prog 73 #[.func (.func 96) #[] #[.pointer (some ⟨Bs, 0, none⟩)], .func (.func 75) #[] #[]] w fun e w' =>
      ∃ u, e = .returned u ∧ w'.ownsRow w.heap.size 99 3 u S.length (flat encI S) ∧ Below w.heap.size w w' := by
  have HCO := hid (collect_items Bs v a hlen hBs hc hI)
  have HP := hid hp
  have HS := hid hs
  have HND := hid hnd
  clear hc hI hp hs hnd
  go_enter Try.func73, Try.ntmps73
  go_wp2_with fail
  refine HCO.out.mono ?_
  rintro e w1 ⟨u, rfl, hu, hb⟩
  have HB := hid hb
  have HU := hid hu
  have HSO := hid (sort_items hu HP.out HS.out HND.out hlen)
  clear hu hb
  go_wp2_with fail
  refine HSO.out.mono ?_
  rintro e w2 ⟨rfl, hu2, hF⟩
  have HU2 := hid hu2
  have HF := hid hF
  clear hu2 hF
  go_wp2_with fail
  go_ret
  exact ⟨u, rfl, HU2.out, ((Fr.of_below (S := NoB) HB.out).trans HF.out (fun x hx => .inr (own_ge HU.out x hx))).no⟩
theorem values_any (A : Option Addr) (n cap : Nat) : Calls Try.prog 74 #[.slice A n cap] w fun e w' => e = .returned (.func (.func 96) #[] #[.pointer (some ⟨w.heap.size, 0, none⟩)]) ∧ w' = w.alloc (.cells #[.slice A n cap] 95) := by
  go_enter Try.func74, Try.ntmps74
  go_wp2_with fail
  go_ret
  exact ⟨rfl, rfl⟩
set_option maxRecDepth 100000 in
set_option maxHeartbeats 1600000 in
theorem heap_all {base h room T : Nat} {Q : Nat → Prop} {L : List (Int × Int)} (H : IsHeap w base h Q room T L) :
    Calls Try.prog 31 #[.pointer (some ⟨h, 0, none⟩)] w fun e w' => ∃ u, e = .returned u ∧ w'.ownsRow w.heap.size 3 1 u L.length (intCells (fsts L)) ∧ Below w.heap.size w w' := by
  obtain ⟨bm, v, M, turn, a, S, H, rfl⟩ := H
  have hids := H.idsL
  have hSl : S.length = L.length := by rw [← H.rep.len, H.alen]
  have hlen : a.length < 1000 := by have := H.alen; have := H.len_; have := H.room_; omega
  have hrow := H.raw.row
  obtain ⟨na, hna⟩ : ∃ na, a.length = na := ⟨_, rfl⟩
  rw [hna] at hrow
  obtain ⟨A, cap, rfl⟩ := own_slice hrow
  have c2 : w.cell? ⟨h, 2, none⟩ = some (.slice A na cap) := blk_cell H.raw.hb 2
  have hs1 : (w.alloc (.cells #[.slice A na cap] 95)).heap.size = w.heap.size + 1 := by simp
  have hI1 : ItemsAt (w.alloc (.cells #[.slice A na cap] 95)).heap.size (w.alloc (.cells #[.slice A na cap] 95)) (.slice A na cap) a :=
    ⟨base, by rw [hna]; exact own_kept hrow (fr0 ((Below.refl _ w).alloc (Nat.le_refl _) _)) (fun _ _ h => h), fun k hk => by have := (hrow.lt k hk).2; omega⟩
  have hso := sorted_items (w := w.alloc (.cells #[.slice A na cap] 95)) w.heap.size (.slice A na cap) (by omega) (by omega) (blk_cell (blk_new w _) 0) hI1 H.rep.perm H.rep.sorted H.rep.nodup
  obtain ⟨n, hn⟩ : ∃ n, S.length = n := ⟨_, rfl⟩
  rw [hn] at hso hSl
  have hn1000 : n < 1000 := by rw [← hn, ← H.rep.len]; exact hlen
  have HSO := hid hso
  have HN := hid hn
  have HSL := hid hSl
  have HIDS := hid hids
  obtain ⟨i1, hi1, hy0, hy1, hy2⟩ := info_parts Try.info_int
  clear H hids hSl hlen hrow hna hs1 hI1 hso hn
  go_enter Try.func31, Try.ntmps31
  go_wp2_with fail
  refine (values_any A na cap).mono ?_
  rintro e w1 ⟨rfl, rfl⟩
  go_wp2_with fail
  refine HSO.out.mono ?_
  rintro e w2 ⟨u, rfl, hu, hb⟩
  obtain ⟨Au, cu, rfl⟩ := own_slice hu
  have HU := hid hu
  have HB2 : Hid (Below w.heap.size w w2) := hid (below_then ((Below.refl _ w).alloc (Nat.le_refl _) (.cells #[.slice A na cap] 95)) hb)
  have hsz2 : w.heap.size ≤ w2.heap.size := HB2.out.size
  clear hu hb HSO
  go_wp2_with fail
  go_loopw [3, 13] (fun v3 i wx => ∃ j : Nat, j ≤ n ∧ i = .int .i64 j ∧ wx.ownsRow w2.heap.size 3 1 v3 j (intCells ((ids S).take j)) ∧ Below w2.heap.size w2 wx) (fun _ i _ => n - (intOf i).toNat)
  case atStart => exact ⟨0, by omega, rfl, World.ownsRow_nil _ _ _ _, Below.refl _ _⟩
  case round =>
    obtain ⟨j, hj, rfl, hown, hb⟩ := hrel
    have HB := hid hb
    have hszx := hb.size
    by_cases hjn : j < n
    · obtain ⟨p, hp⟩ : ∃ p, S[j]? = some p := ⟨_, List.getElem?_eq_getElem (by have := HN.out; omega)⟩
      obtain ⟨g7, e7, d0⟩ := row_cell (j := 0) encI_len HU.out hp rfl
      obtain ⟨g8, e8, d1⟩ := row_cell (j := 1) encI_len HU.out hp rfl
      obtain ⟨g9, e9, d2⟩ := row_cell (j := 2) encI_len HU.out hp rfl
      obtain rfl := e7
      cases e8
      cases e9
      simp only [Nat.add_zero] at d0
      have d0x := (hb.cell (World.block_lt_of_cell? _ _ d0)).trans d0
      have d1x := (hb.cell (World.block_lt_of_cell? _ _ d1)).trans d1
      have d2x := (hb.cell (World.block_lt_of_cell? _ _ d2)).trans d2
      have hp2 : (ids S)[j]? = some p.id := by unfold ids; rw [List.getElem?_map, hp]; rfl
      have HIT := hid (int_take hp2)
      have hown2 := own_kept hown (fr0 ((Below.refl wr.heap.size wr).alloc (Nat.le_refl _) (.cells #[.int .i64 p.id, .int .i64 p.key, .int .i64 p.turn] 99))) (fun _ _ h => h)
      have HOW := hid hown2
      clear hp hp2 d0 d1 d2 hb hown
      go_wp2_with (at_builtin; refine append_new (W := wr.alloc (.cells #[.int .i64 p.id, .int .i64 p.key, .int .i64 p.turn] 99)) rfl _ _ 34 rfl w2.heap.size 3 i1 _ 1 8 Try.underlying34 hi1 hy0 hy1 hy2 rfl (by decide) #[.int .i64 p.id] u3 j (intCells ((ids S).take j)) rfl (wr.heap.size + 1) rfl (by simp) hown2 rfl (one_one _) (by unfold maxLen; omega) (by omega) (by simp; omega) ?_)
      intro v6 w6 hown6 hf6 hl6
      have HO6 : Hid (w6.ownsRow w2.heap.size 3 1 v6 (j + 1) (intCells ((ids S).take (j + 1)))) := by rw [HIT.out]; exact hid hown6
      have HB6 : Hid (Below w2.heap.size w2 w6) := hid ((Fr.of_below (S := NoB) (below_new HB.out (.cells #[.int .i64 p.id, .int .i64 p.key, .int .i64 p.turn] 99))).trans hf6 (fun b hb => .inr (own_ge HOW.out b hb))).no
      clear hown6 hf6 hl6 hown2
      go_wp2_with fail
      go_roundw
      case rel => exact ⟨j + 1, by omega, by go_num, HO6.out, HB6.out⟩
      case measure => simp [intOf]; omega
    · obtain rfl : j = n := by omega
      have hown2 : wr.ownsRow w2.heap.size 3 1 u3 j (intCells (ids S)) := by
        rw [List.take_of_length_le (by unfold ids; rw [List.length_map, HN.out]; exact Nat.le_refl _)] at hown
        exact hown
      have HO2 := hid hown2
      obtain ⟨A13, c13, rfl⟩ := own_slice hown2
      clear hown hown2 hb
      go_wp2_with fail
      go_ret
      refine ⟨_, rfl, ?_, below_then HB2.out HB.out⟩
      rw [HIDS.out, ← HSL.out]
      exact own_mono HO2.out hsz2
end
end Go.Proofs.Ytbkjlohlfkokpaa
