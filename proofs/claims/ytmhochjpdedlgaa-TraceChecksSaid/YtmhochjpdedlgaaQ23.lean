/- Joined: Stab3. -/
import Derived.Test.YtmhochjpdedlgaaQ22
set_option linter.unusedVariables false
set_option linter.unusedSimpArgs false
/- slices.insertionSortCmpFunc at parts, by deadlines (contract). -/
set_option linter.unusedVariables false
set_option linter.unusedSimpArgs false
namespace Go.Proofs.Ytmhochjpdedlgaa
open Go.RowKit Go.Sort

theorem Try.mixed_ : Try.prog.follows .mixedOrders = true := by kernel_rfl
/-- Parts by their deadlines, ties by their tasks. -/
def ptO : Order Pt where
  lo x y := decide (x.p.dl < y.p.dl)
  tk x := x.task
  asym x y h := by simp at h ⊢; omega
  tr x y z h k := by simp at h k ⊢; omega
theorem ptO_lo (x y : Pt) : ptO.lo x y = decide (cmp3 x.p.dl y.p.dl < 0) := by
  show decide _ = decide _
  unfold cmp3
  split
  · simp [*]
  · split <;> simp [*]
theorem ptO_true {x y : Pt} (h : cmp3 x.p.dl y.p.dl < 0) : ptO.lo x y = true := by rw [ptO_lo]; exact decide_eq_true h
theorem ptO_false {x y : Pt} (h : ¬ cmp3 x.p.dl y.p.dl < 0) : ptO.lo x y = false := by rw [ptO_lo]; exact decide_eq_false h
section
variable {w : World} {base g n cap : Nat} {d : Nat → Pt}
theorem fr_grown (w : World) (q : Nat) (os : Array Obj) : Fr NoB w (grow (w.drewN q) os) :=
  ⟨rfl, rfl, rfl, by rw [size_grow]; exact Nat.le_add_right _ _, fun k hk _ => heap_grow_old (w.drewN q) os hk⟩
theorem PR.grown (H : PR w base g n cap d) (q : Nat) (os : Array Obj) : PR (grow (w.drewN q) os) base g n cap d := H.kept (fr_grown w q os) (fun h => h)
theorem cmp_class (w : World) (x y : Pt) : Calls Try.prog 60 #[.agg (encPt x).toArray, .agg (encPt y).toArray] w fun e w' => e = .returned (.int .i64 (cmp3 x.p.dl y.p.dl)) ∧ ∃ q os', w' = grow (w.drewN q) os' := by
  refine (rankcmp_any x y).mono ?_
  rintro e w' ⟨rfl, rfl⟩
  exact ⟨rfl, 0, #[_, _], by rw [alloc_eq_grow, alloc_eq_grow, grow_grow]; rfl⟩
theorem Mv.single {α : Type} {d d' : Nat → α} {a : Nat} (h : Mv a (a + 1) d d') : d' = d := by
  funext k
  by_cases e : a ≤ k ∧ k < a + 1
  · obtain ⟨j, h1, h2, h3⟩ := h.fro k e.1 e.2
    rw [h3, show j = k by omega]
  · exact h.out k e
set_option maxRecDepth 100000 in
set_option maxHeartbeats 6400000 in
theorem insertion_any (d : Nat → Pt) (g n cap a b : Nat) (H : PR w base g n cap d) (hr : Rising ptO d a b) (hab : a ≤ b) (hb : b ≤ n) (hn : n < 1000000) :
    Calls Try.prog 107 #[.slice (some ⟨g, 0, none⟩) n cap, .int .i64 a, .int .i64 b, .func (.func 60) #[] #[]] w fun e w' => e = .returned (.tuple #[]) ∧ ∃ d', PR w' base g n cap d' ∧ Mv a b d d' ∧ Sd ptO d' a b ∧ Fr (One g) w w' := by
  have HH := hid H
  have HRI := hid hr
  have HIN := hid (InsO.start (O := ptO) (d := d) hab)
  have mixed := Try.mixed_
  clear H hr
  go_enter Try.func107, Try.ntmps107
  go_wp2_with fail
  go_loopw [8] (fun v wr => ∃ (i : Nat) (dk : Nat → Pt), v = .int .i64 i ∧ (i ≤ b ∨ i = a + 1) ∧ Hid (PR wr base g n cap dk) ∧ Hid (InsO ptO a b d i dk) ∧ Hid (Fr (One g) w wr)) (fun v _ => b - (intOf v).toNat)
  case atStart => exact ⟨a + 1, d, by go_num, .inr rfl, HH, HIN, hid (Fr.refl _ _)⟩
  case round =>
    obtain ⟨i, dk, rfl, hib, HP, HO, HF⟩ := hrel
    by_cases hlt : i < b
    case pos =>
      have hai := HO.out.ai
      have HI := hid (HO.out.next HRI.out hlt)
      clear hib
      go_wp2_with fail
      obtain ⟨ws, hws⟩ : ∃ ws, ws = wr := ⟨_, rfl⟩
      subst hws
      go_loopw [9] (fun v wr => ∃ (j : Nat) (dj : Nat → Pt), v = .int .i64 j ∧ a ≤ j ∧ j ≤ i ∧ Hid (PR wr base g n cap dj) ∧ Hid (InsI ptO a b d i j dj) ∧ Hid (Fr (One g) w wr)) (fun v _ => (intOf v).toNat)
      case atStart => exact ⟨i, dk, rfl, hai, Nat.le_refl _, HP, HI, HF⟩
      case round =>
        obtain ⟨j, dj, rfl, haj, hji, HPj, HIj, HFj⟩ := hrel
        by_cases hja : a < j
        case pos =>
          obtain ⟨jp, rfl⟩ : ∃ jp, j = jp + 1 := ⟨j - 1, by omega⟩
          have hj1 : jp + 1 < n := by omega
          have hj0 : jp < n := by omega
          have hwp : IntKind.i64.wrap (((jp + 1 : Nat) : Int) - 1) = (jp : Int) := by rw [IntKind.wrap_i64]; omega
          have hgt : (a : Int) < ((jp + 1 : Nat) : Int) := by omega
          obtain ⟨J, hJ⟩ : ∃ J, jp + 1 = J := ⟨_, rfl⟩
          have HSW := hid (fun (q : Nat) (os : Array Obj) => (HPj.out.grown q os).swapped (i := J) (j := jp) (by omega) hj0)
          have HG := hid (fun (q : Nat) (os : Array Obj) => HPj.out.grown q os)
          have hFG := fun (q : Nat) (os : Array Obj) => HFj.out.trans (fr_grown wr q os) (fun _ h => h.elim)
          have HFG := hid hFG
          have hcg := fun (q : Nat) (os : Array Obj) => cmp_class (grow (wr.drewN q) os) (dj J) (dj jp)
          have hp := fun (q : Nat) (os : Array Obj) => (HPj.out.grown q os).cells (i := J) (by omega)
          have hq := fun (q : Nat) (os : Array Obj) => (HPj.out.grown q os).cells (i := jp) hj0
          have p0 := fun q os => (hp q os).1
          have p1 := fun q os => (hp q os).2.1
          have p2 := fun q os => (hp q os).2.2.1
          have p3 := fun q os => (hp q os).2.2.2.1
          have p4 := fun q os => (hp q os).2.2.2.2.1
          have p5 := fun q os => (hp q os).2.2.2.2.2.1
          have p6 := fun q os => (hp q os).2.2.2.2.2.2
          have q0 := fun q os => (hq q os).1
          have q1 := fun q os => (hq q os).2.1
          have q2 := fun q os => (hq q os).2.2.1
          have q3 := fun q os => (hq q os).2.2.2.1
          have q4 := fun q os => (hq q os).2.2.2.2.1
          have q5 := fun q os => (hq q os).2.2.2.2.2.1
          have q6 := fun q os => (hq q os).2.2.2.2.2.2
          clear hp hq hFG
          rw [hJ] at hj1 hwp hgt hji haj hja HIj ⊢
          have HJ := hid hJ
          have HSTOP := hid (fun (h : ¬ cmp3 (dj J).p.dl (dj jp).p.dl < 0) => HIj.out.stop (.inr (by rw [← HJ.out]; rw [← HJ.out] at h; exact ptO_false h)))
          have HGO := hid (fun (h : cmp3 (dj J).p.dl (dj jp).p.dl < 0) => HIj.out.swap hja (by rw [← HJ.out]; rw [← HJ.out] at h; exact ptO_true h))
          clear hJ
          generalize dj J = x at *
          generalize dj jp = y at *
          obtain ⟨⟨xc, xb, xd, xp, xt⟩, xk, xj⟩ := x
          obtain ⟨⟨yc, yb, yd, yp, yt⟩, yk, yj⟩ := y
          unfold encPt at hcg
          simp only at p0 p1 p2 p3 p4 p5 p6 q0 q1 q2 q3 q4 q5 q6 hcg HSTOP HGO HSW
          by_cases hc : cmp3 xd yd < 0
          case pos =>
            obtain ⟨c, hcc⟩ : ∃ c, cmp3 xd yd = c := ⟨_, rfl⟩
            have HGO2 := hid (HGO.out hc)
            rw [hcc] at hc hcg
            clear hcc HGO HSTOP
            go_wp2_with fail
            go_quiet_grown (first | (go_at_call 60; refine Calls.grown_of (hcg _ _)))
            have a0 := p0 nq osq
            have a1 := p1 nq osq
            have a2 := p2 nq osq
            have a3 := p3 nq osq
            have a4 := p4 nq osq
            have a5 := p5 nq osq
            have a6 := p6 nq osq
            have b0 := q0 nq osq
            have b1 := q1 nq osq
            have b2 := q2 nq osq
            have b3 := q3 nq osq
            have b4 := q4 nq osq
            have b5 := q5 nq osq
            have b6 := q6 nq osq
            clear p0 p1 p2 p3 p4 p5 p6 q0 q1 q2 q3 q4 q5 q6 hcg
            have hPW := HG.out nq osq
            obtain ⟨wz, hwz, hsz, hfz⟩ := HSW.out nq osq
            have HFZ := hid (hfz _ (HFG.out nq osq))
            have HSZ := hid hsz
            clear HG HSW HFG hsz hfz
            generalize grow (wr.drewN nq) osq = W2 at *
            unfold stPt at hwz
            simp only at hwz
            have hfz1 : ∀ k, W2.frozen? ⟨g, k, none⟩ = false := fun k => own_free hPW k
            have hfz2 : ∀ k, W2.drew.frozen? ⟨g, k, none⟩ = false := fun k => own_free hPW k
            have r0 : W2.drew.cell? ⟨g, J * 7, none⟩ = some (.int .i64 xc) := a0
            have r1 : W2.drew.cell? ⟨g, J * 7 + 1, none⟩ = some (.int .i64 xb) := a1
            have r2 : W2.drew.cell? ⟨g, J * 7 + 2, none⟩ = some (.int .i64 xd) := a2
            have r3 : W2.drew.cell? ⟨g, J * 7 + 3, none⟩ = some (.int .i64 xp) := a3
            have r4 : W2.drew.cell? ⟨g, J * 7 + 4, none⟩ = some (.bool xt) := a4
            have r5 : W2.drew.cell? ⟨g, J * 7 + 5, none⟩ = some (.int .i64 xk) := a5
            have r6 : W2.drew.cell? ⟨g, J * 7 + 6, none⟩ = some (.int .i64 xj) := a6
            have s0 : W2.drew.cell? ⟨g, jp * 7, none⟩ = some (.int .i64 yc) := b0
            have s1 : W2.drew.cell? ⟨g, jp * 7 + 1, none⟩ = some (.int .i64 yb) := b1
            have s2 : W2.drew.cell? ⟨g, jp * 7 + 2, none⟩ = some (.int .i64 yd) := b2
            have s3 : W2.drew.cell? ⟨g, jp * 7 + 3, none⟩ = some (.int .i64 yp) := b3
            have s4 : W2.drew.cell? ⟨g, jp * 7 + 4, none⟩ = some (.bool yt) := b4
            have s5 : W2.drew.cell? ⟨g, jp * 7 + 5, none⟩ = some (.int .i64 yk) := b5
            have s6 : W2.drew.cell? ⟨g, jp * 7 + 6, none⟩ = some (.int .i64 yj) := b6
            have hne : J ≠ jp := by have := HJ.out; omega
            have HWZ := hid hwz
            clear hPW hwz
            go_wp2_with fail
            go_region
            rw [← HWZ.out]
            clear a0 a1 a2 a3 a4 a5 a6 b0 b1 b2 b3 b4 b5 b6 r0 r1 r2 r3 r4 r5 r6 s0 s1 s2 s3 s4 s5 s6 hfz1 hfz2 HWZ
            go_wp2_with fail
            go_roundw
            case rel => exact ⟨jp, _, by go_num, by have := HJ.out; omega, by have := HJ.out; omega, HSZ, hid (by have h := HGO2.out; rw [show J - 1 = jp by have := HJ.out; omega] at h; exact h), HFZ⟩
            case measure => have := HJ.out; simp [intOf]; omega
          case neg =>
            obtain ⟨c, hcc⟩ : ∃ c, cmp3 xd yd = c := ⟨_, rfl⟩
            have HST := hid (HSTOP.out hc)
            rw [hcc] at hc hcg
            clear hcc HGO HSTOP
            go_wp2_with fail
            go_quiet_grown (first | (go_at_call 60; refine Calls.grown_of (hcg _ _)))
            clear p0 p1 p2 p3 p4 p5 p6 q0 q1 q2 q3 q4 q5 q6 hcg
            have HPW := hid (HG.out nq osq)
            have HFZ := hid (HFG.out nq osq)
            clear HG HSW HFG
            generalize grow (wr.drewN nq) osq = W2 at *
            go_wp2_with fail
            go_roundw
            case rel => exact ⟨i + 1, _, by go_num, by omega, HPW, HST, HFZ⟩
            case measure => simp [intOf]; omega
        case neg =>
          obtain rfl : j = a := by omega
          have HST := hid (HIj.out.stop (.inl rfl))
          have HPW := hid (PR.drew HPj.out)
          have HFZ := hid HFj.out.drew
          go_wp2_with fail
          go_region
          go_wp2_with fail
          go_roundw
          case rel => exact ⟨i + 1, _, by go_num, by omega, HPW, HST, HFZ⟩
          case measure => simp [intOf]; omega
    case neg =>
      go_wp2_with fail
      go_end0
      refine ⟨rfl, dk, HP.out, ?_, ?_, HF.out⟩
      · rcases Nat.lt_or_ge b i with h | h
        · obtain rfl : i = a + 1 := by omega
          obtain rfl : a = b := by omega
          rw [HO.out.mv.single]
          exact Mv.refl _ _ _
        · rw [show b = i by omega]
          exact HO.out.mv
      · exact fun p q h1 h2 h3 => HO.out.sd p q h1 h2 (by omega)
end
end Go.Proofs.Ytmhochjpdedlgaa
