/- Joined: RPlan19. -/
import Derived.Test.YtmhochjpdedlgaaQ37
set_option linter.unusedVariables false
set_option linter.unusedSimpArgs false
/- Package tourbillonref19: plan (contract). -/
set_option linter.unusedVariables false
set_option linter.unusedSimpArgs false
namespace Go.Proofs.Ytmhochjpdedlgaa
open Go.RowKit

section
variable {w : World}
set_option maxRecDepth 100000 in
set_option maxHeartbeats 3200000 in
theorem rplan19_any (T : Tb) (tv : Value) (A : Option Addr) (n c : Nat) (cv : Value) (h : IsTab w tv (.slice A n c) cv T) (hlen : n ≤ 4398046511104) :
    Calls Try.prog 80 #[tabV T.sys tv (.slice A n c) cv] w fun e w' => ∃ B m d, e = .returned (.slice B m d) ∧ IsPlan w' (.slice B m d) T.plan ∧ Below w.heap.size w w' := by
  have hn := h.ents.len
  have HT := hid h
  have HN := hid hn
  obtain ⟨i0, hi, hz0, hz1, hz2⟩ := info_parts Try.info_pieces
  have hq0 := blk_new w (.cells (tabC T.sys tv (.slice A n c) cv) 28)
  have hbel := below_new (Below.refl w.heap.size w) (.cells (tabC T.sys tv (.slice A n c) cv) 28)
  unfold tabV tabC at *
  clear h hn
  go_enter Try.func80, Try.ntmps80
  go_upto_region 2 with fail
  generalize w.alloc (.cells #[.int .i64 T.sys.cores, .int .i64 T.sys.policy, .int .i64 T.sys.prot, .int .i64 T.sys.rel, .int .i64 T.sys.sw, .int .i64 T.sys.fin, .int .i64 T.sys.lat, .int .i64 T.sys.resn, tv, .slice A n c, cv] 28) = w1 at hq0 hbel ⊢
  have HB0 := hid hbel
  have HQ0 := hid hq0
  clear hq0 hbel
  go_wp2_with fail
  go_loopw [3, 4] (fun u v wr => ∃ (k : Nat) (vs : List Value), k ≤ n ∧ v = .int .i64 k ∧ Hid (VG w wr u vs (T.plan.take k)) ∧ Hid (Below w.heap.size w wr) ∧ Hid (wr.heap[w.heap.size]? = some (.cells #[.int .i64 T.sys.cores, .int .i64 T.sys.policy, .int .i64 T.sys.prot, .int .i64 T.sys.rel, .int .i64 T.sys.sw, .int .i64 T.sys.fin, .int .i64 T.sys.lat, .int .i64 T.sys.resn, tv, .slice A n c, cv] 28 (0, 0)))) (fun _ v _ => n - (intOf v).toNat)
  case atStart => exact ⟨0, [], by omega, rfl, hid (VG.nil _ _), HB0, HQ0⟩
  case round =>
    obtain ⟨k, vs, hk, rfl, HV, HB, HQ⟩ := hrel
    have c9 : wr.cell? ⟨w.heap.size, 9, none⟩ = some (.slice A n c) := blk_cell HQ.out 9
    by_cases hlt : k < n
    case pos =>
      obtain ⟨x, hx⟩ : ∃ x, T.ents[k]? = some x := ⟨_, List.getElem?_eq_getElem (by have := HN.out; omega)⟩
      obtain ⟨b, o, cs, hA, hbl, _, hc, ue, hr, hru⟩ := HT.out.ents.at hx
      subst hA
      subst hr
      obtain ⟨A3, c3, hu3, _⟩ := hru.shape
      obtain ⟨n3, hn3⟩ : ∃ n3, x.ps.length = n3 := ⟨_, rfl⟩
      rw [hn3] at hu3
      subst hu3
      obtain ⟨xb, hxb⟩ : ∃ v, x.bound = v := ⟨_, rfl⟩
      rw [hxb] at hc
      have e0 : wr.cell? ⟨b, o + k * 2, none⟩ = some (.slice A3 n3 c3) := (HB.out.cell (p := ⟨b, o + k * 2, none⟩) hbl).trans (by simpa using hc 0 _ rfl)
      have e1 : wr.cell? ⟨b, o + k * 2 + 1, none⟩ = some (.int .i64 xb) := (HB.out.cell (p := ⟨b, o + k * 2 + 1, none⟩) hbl).trans (hc 1 _ rfl)
      have HX := hid (show T.plan[k]? = some x.ps by unfold Tb.plan; rw [List.getElem?_map, hx]; rfl)
      have HRU := hid hru
      have hvl : vs.length = k := by
        have h1 := HV.out.len
        rw [List.length_take] at h1
        have h2 : T.plan.length = T.ents.length := by unfold Tb.plan; rw [List.length_map]
        have := HN.out
        omega
      clear hx hc hru hn3 hxb hbl
      have HV3 := HV
      have HB3 := HB
      have hown := HV3.out.out
      obtain ⟨Au, cu, hu⟩ := own_slice hown
      rw [hvl] at hu hown
      subst hu
      have HOWN := hid hown
      have hsz3 : w.heap.size ≤ wr.heap.size := HB3.out.size
      have HNB := hid (show ¬ (Value.slice Au k cu).ownBlock = some w.heap.size from fun h => by
        rcases hown.2 with ⟨h2, _⟩ | ⟨g, cap', cur, h2, _, hg, _⟩
        · rw [h2] at h; cases h
        · rw [h2] at h
          have h3 : g = w.heap.size := by have : some g = some w.heap.size := h; injection this
          rw [h3, HQ.out] at hg
          injection hg with hg
          injection hg with _ ht _
          exact absurd ht (by decide))
      clear e1 hown
      go_wp2_with (at_builtin; refine append_new rfl _ _ 48 rfl w.heap.size 52 i0 _ 1 24 Try.underlying48 hi hz0 hz1 hz2 rfl (by decide) #[.slice A3 n3 c3] (.slice Au k cu) k vs rfl _ rfl rfl HOWN.out rfl (fun u hu => by simp at hu; subst hu; rfl) (by unfold maxLen; omega) (by omega) hsz3 ?_; intro v' w4 ho hf hv; obtain ⟨A', c', rfl⟩ := own_slice ho; have HO4 := hid ho; have HF4 := hid hf; clear ho hf hv e0 c9)
      have HV4 := hid (show VG w w4 (.slice A' (k + 1) c') (vs ++ [.slice A3 n3 c3]) (T.plan.take (k + 1)) by
        rw [take_next HX.out]
        exact HV3.out.snoc HRU.out (by rw [hvl]; exact HO4.out))
      have HB4 := hid (((Fr.of_below (S := NoB) HB3.out).trans HF4.out (fun x hx => .inr (HOWN.out.lt x hx).1)).no)
      have HQ4 := hid (HF4.out.blk HQ.out HNB.out)
      go_roundw
      case rel => exact ⟨k + 1, _, by omega, by go_num, HV4, HB4, HQ4⟩
      case measure => simp [intOf]; omega
    case neg =>
      obtain rfl : k = n := by omega
      have hpl : T.plan.length = k := by unfold Tb.plan; rw [List.length_map]; exact HN.out.symm
      have HV5 := HV.out
      rw [List.take_of_length_le (by omega)] at HV5
      have hown := HV5.out
      obtain ⟨Au, cu, hu⟩ := own_slice hown
      subst hu
      have HP := hid (show IsPlan wr (.slice Au vs.length cu) T.plan from ⟨HV5.plan HB.out, fun l hl p hp => by
        unfold Tb.plan at hl
        obtain ⟨e, he, rfl⟩ := List.mem_map.1 hl
        exact HT.out.wf e he p hp⟩)
      clear HV5 hown
      go_wp2_with fail
      go_ret
      exact ⟨Au, _, cu, rfl, HP.out, HB.out⟩
end
end Go.Proofs.Ytmhochjpdedlgaa
