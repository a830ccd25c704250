/- Package ipi: Len (contract): the notes of a core are counted in whatever order. -/
import Derived.Test.YtbkjlohlfkokpaaIpi
set_option linter.unusedVariables false
set_option linter.unusedSimpArgs false
namespace Go.Proofs.Ytbkjlohlfkokpaa
open Go.RowKit

/-- The keys of the map, each once. -/
structure Keys (f : Int × Int → Option (Int × Int)) (K : List (Int × Int)) : Prop where
  nodup : K.Nodup
  wf : ∀ p ∈ K, pairW p
  iff : ∀ p, pairW p → ((f p).isSome = true ↔ p ∈ K)
def cntK (K : List (Int × Int)) (core : Int) (L : Int × Int → Bool) : Nat := (K.filter (fun p => decide (p.1 = core) && !L p)).length
theorem cnt_step (core : Int) (L : Int × Int → Bool) (p : Int × Int) (hL : L p = true) : ∀ (K : List (Int × Int)), K.Nodup → p ∈ K → cntK K core (fun z => L z && !decide (z = p)) = cntK K core L + (if p.1 = core then 1 else 0)
  | [], _, h => by cases h
  | x :: K, hn, h => by
    obtain ⟨h1, h2⟩ := List.nodup_cons.1 hn
    by_cases e : x = p
    · subst e
      have hc : cntK K core (fun z => L z && !decide (z = x)) = cntK K core L := by
        unfold cntK
        congr 1
        refine List.filter_congr fun z hz => ?_
        have : z ≠ x := fun e => h1 (e ▸ hz)
        simp [this]
      unfold cntK at hc ⊢
      rw [List.filter_cons, List.filter_cons]
      by_cases hx : x.1 = core
      · simp [hx, hL] at hc ⊢; omega
      · simp [hx] at hc ⊢; omega
    · have hp : p ∈ K := (List.mem_cons.1 h).resolve_left (fun e2 => e e2.symm)
      have ih := cnt_step core L p hL K h2 hp
      unfold cntK at ih ⊢
      rw [List.filter_cons, List.filter_cons]
      simp only [e, decide_false, Bool.not_false, Bool.and_true]
      by_cases hq : (decide (x.1 = core) && !L x) = true
      · rw [if_pos hq, if_pos hq, List.length_cons, List.length_cons, ih]; omega
      · rw [if_neg hq, if_neg hq]; exact ih
theorem cnt_done {K : List (Int × Int)} {core : Int} {L : Int × Int → Bool} (h : ∀ p ∈ K, L p = false) : cntK K core L = (K.filter (fun p => decide (p.1 = core))).length := by
  unfold cntK
  congr 1
  exact List.filter_congr fun z hz => by simp [h z hz]
section
variable {w w' : World} {base b bm n : Nat} {cores turn : Int} {f : Int × Int → Option (Int × Int)} {K : List (Int × Int)}
theorem cnt_start {core : Int} (hK : Keys f K) : cntK K core (fun p => (f p).isSome) = 0 := by
  unfold cntK
  rw [List.length_eq_zero_iff, List.filter_eq_nil_iff]
  intro p hp
  simp [(hK.iff p (hK.wf p hp)).2 hp]
set_option maxRecDepth 100000 in
set_option maxHeartbeats 800000 in
theorem ipi_len (H : IpiAt w base b bm n cores turn f) (hK : Keys f K) (core : Int) (hl : K.length < 1000000) :
    Calls Try.prog 26 #[.pointer (some ⟨b, 0, none⟩), .int .i64 core] w fun e w' => e = .returned (.int .i64 ((K.filter (fun p => decide (p.1 = core))).length : Nat)) ∧ Below w.heap.size w w' := by
  have c2 : w.cell? ⟨b, 2, none⟩ = some (.map (some bm)) := blk_cell H.hb 2
  have HM := hid H.map
  have HK := hid hK
  have hbl := (H.lt bm (.inr rfl)).2
  clear H hK
  go_enter Try.func26, Try.ntmps26
  go_wp2_with (at_range; refine wp_prange rfl _ _ rfl Try.underlying78 HM.out rfl ?_; intro w0 cnt hR0 hF0 hs0)
  go_frame
  have HR0 := hid hR0
  have HB0 := hid hF0.no
  clear hR0 hF0
  go_loopw [5] (fun v wr => ∃ (L : Int × Int → Bool) (cnt m : Nat), v = .int .i64 m ∧ Below w.heap.size w wr ∧ RangeP wr bm w.heap.size n f L cnt ∧ Hid (m = cntK K core L)) (fun _ wr => wr.rangeLeft bm w.heap.size)
  case atStart => exact ⟨_, _, 0, rfl, HB0.out, HR0.out, (cnt_start HK.out).symm⟩
  case round =>
    obtain ⟨L, cnt, m, rfl, hb, hR, hm⟩ := hrel
    have hmle : m < 1000000 := by
      have h1 := hm.out
      have : cntK K core L ≤ K.length := by unfold cntK; exact List.length_filter_le _ _
      omega
    go_wp2_with (at_next; refine wp_pnext rfl _ rfl hR rfl ?_ ?_)
    · intro hdone
      have e := hid (show m = (K.filter (fun p => decide (p.1 = core))).length by rw [hm.out, cnt_done (fun p hp => hdone p.1 p.2 (HK.out.wf p hp))])
      clear hR hdone
      go_wp2_with fail
      go_ret
      exact ⟨ret_eq (by rw [← e.out]; rfl), hb⟩
    · intro pa pb qa qb w1 cnt1 hpw hL hfp hR1 hlt hF1 hs1 hen
      have hstep := cnt_step core L (pa, pb) hL K HK.out.nodup ((HK.out.iff _ hpw).1 (by rw [hfp]; rfl))
      have HST := hid hstep
      have HR1 := hid (hR1.kept ((Fr.refl NoB w1).alloc (.cells #[.int .i64 pa, .int .i64 pb] 85)) (fun h => h) (fun h => h))
      have HB1 := hid (below_new (((Fr.of_below (S := NoB) hb).trans hF1 (fun x hx => .inr (by rw [show x = w.heap.size from hx]; exact Nat.le_refl _))).no) (.cells #[.int .i64 pa, .int .i64 pb] 85))
      have HLT := hid (show cnt1 < wr.rangeLeft bm w.heap.size by rw [hR.left_eq]; exact hlt)
      clear hR hL hfp hR1 hlt hF1 hb hstep
      unfold pairV at hen ⊢
      by_cases hc : pa = core
      · have hcb : (pa == core) = true := beq_iff_eq.2 hc
        have HC := hid hc
        clear hc
        go_wp2_with fail
        go_roundw
        case rel => exact ⟨_, cnt1, m + 1, by go_num, HB1.out, HR1.out, hid (by rw [HST.out, hm.out, if_pos HC.out])⟩
        case measure => rw [HR1.out.left_eq]; exact HLT.out
      · have hcb : (pa == core) = false := beq_eq_false_iff_ne.2 hc
        have HC := hid hc
        clear hc
        go_wp2_with fail
        go_roundw
        case rel => exact ⟨_, cnt1, m, rfl, HB1.out, HR1.out, hid (by rw [HST.out, hm.out, if_neg HC.out]; rfl)⟩
        case measure => rw [HR1.out.left_eq]; exact HLT.out
end
end Go.Proofs.Ytbkjlohlfkokpaa
