/- Joined: Trace10. -/
import Derived.Test.YtmhochjpdedlgaaQ42
set_option linter.unusedVariables false
set_option linter.unusedSimpArgs false
/- Package tourbillonref22: shapes (contract). -/
set_option linter.unusedVariables false
set_option linter.unusedSimpArgs false
namespace Go.Proofs.Ytmhochjpdedlgaa
open Go.RowKit

/-- Is a slot there, and of a right shape? -/
def okC (nc nt : Nat) (l : List Sl) (c : Nat) : Bool := decide (c < nc) && ((l[c]?).map (shapeB nt)).getD false
def rowOk (nc nt : Nat) (l : List Sl) : Prop := ∀ c, c < nc ∨ c < l.length → okC nc nt l c = true
/-- Where the second rule is broken first, or that it is not. -/
def Shp (nc nt : Nat) (X : List (List Sl)) (t c : Int) (bad : Bool) : Prop :=
  (bad = false ∧ t = 0 ∧ c = 0 ∧ ∀ l ∈ X, rowOk nc nt l) ∨
  (bad = true ∧ ∃ (tn cn : Nat) (l : List Sl), t = tn ∧ c = cn ∧ X[tn]? = some l ∧ (cn < nc ∨ cn < l.length) ∧ okC nc nt l cn = false ∧ (∀ c', c' < cn → okC nc nt l c' = true) ∧ ∀ t' l', t' < tn → X[t']? = some l' → rowOk nc nt l')
attribute [local irreducible] wpQuiet
section
variable {w : World}
set_option maxRecDepth 100000 in
set_option maxHeartbeats 6400000 in
theorem shapes22_any (S : Sy) (At : Option Addr) (nt ct : Nat) (ev cv : Value) (X : Tr) (A : Option Addr) (n cp : Nat) (jv : Value) (nc : Nat) (hnc : S.cores = nc) (hnc8 : nc ≤ 1000) (hnt : nt ≤ 9223372036854775807) (h : Rowp 1 (RowR 3 slR) w (.slice A n cp) X.slots) :
    Calls Try.prog 37 #[tabV S (.slice At nt ct) ev cv, trV (.slice A n cp) jv] w fun e w' => ∃ t c bad, e = .returned (.tuple #[.int .i64 t, .int .i64 c, .bool bad]) ∧ Shp nc nt X.slots t c bad ∧ Below w.heap.size w w' := by
  have hn := h.len
  have hnm : n ≤ 9223372036854775807 := by have := h.room; unfold maxLen at this; omega
  have HL := hid h
  have HN := hid hn
  have HSH := hid (fun W (s : Sl) => shape22_any (w := W) S At nt ct ev cv s hnt)
  unfold tabV tabC slV at HSH
  unfold tabV tabC trV
  rw [hnc] at HSH ⊢
  have hq0 := blk_old (blk_new w (.cells #[.int .i64 (nc : Int), .int .i64 S.policy, .int .i64 S.prot, .int .i64 S.rel, .int .i64 S.sw, .int .i64 S.fin, .int .i64 S.lat, .int .i64 S.resn, .slice At nt ct, ev, cv] 28)) (.cells #[.slice A n cp, jv] 32)
  have hq1 := blk_new (w.alloc (.cells #[.int .i64 (nc : Int), .int .i64 S.policy, .int .i64 S.prot, .int .i64 S.rel, .int .i64 S.sw, .int .i64 S.fin, .int .i64 S.lat, .int .i64 S.resn, .slice At nt ct, ev, cv] 28)) (.cells #[.slice A n cp, jv] 32)
  have hbe := below_new (below_new (Below.refl w.heap.size w) (.cells #[.int .i64 (nc : Int), .int .i64 S.policy, .int .i64 S.prot, .int .i64 S.rel, .int .i64 S.sw, .int .i64 S.fin, .int .i64 S.lat, .int .i64 S.resn, .slice At nt ct, ev, cv] 28)) (.cells #[.slice A n cp, jv] 32)
  have hsz : ∀ o, (w.alloc o).heap.size = w.heap.size + 1 := fun o => by simp
  rw [hsz] at hq1
  clear hsz h hn hnc
  go_enter Try.func37, Try.ntmps37
  go_upto_region 1 with fail
  generalize (w.alloc (.cells #[.int .i64 (nc : Int), .int .i64 S.policy, .int .i64 S.prot, .int .i64 S.rel, .int .i64 S.sw, .int .i64 S.fin, .int .i64 S.lat, .int .i64 S.resn, .slice At nt ct, ev, cv] 28)).alloc (.cells #[.slice A n cp, jv] 32) = w1 at hq0 hq1 hbe ⊢
  have HQ := hid (⟨hq0, hq1⟩ : _ ∧ _)
  have HB := hid hbe
  clear hq0 hq1 hbe
  go_wp2_with fail
  go_loopw [7] (fun v wr => ∃ k : Nat, k ≤ n ∧ v = .int .i64 k ∧ Hid (∀ t' l', t' < k → X.slots[t']? = some l' → rowOk nc nt l') ∧ Hid (Below w1.heap.size w1 wr)) (fun v _ => n - (intOf v).toNat)
  case atStart => exact ⟨0, by omega, rfl, hid (fun t' l' h => by omega), hid (Below.refl _ _)⟩
  case round =>
    obtain ⟨k, hk, rfl, HF, HBR⟩ := hrel
    have t0 : wr.cell? ⟨w.heap.size + 1, 0, none⟩ = some (.slice A n cp) := blk_cell ((fr0 HBR.out).blk HQ.out.2 (fun h => h)) 0
    by_cases hlt : k < n
    case pos =>
      obtain ⟨l, hl⟩ : ∃ l, X.slots[k]? = some l := ⟨_, List.getElem?_eq_getElem (by have := HN.out; omega)⟩
      obtain ⟨b, o, cs, hA, hbl, _, hcs, u, hr, hru⟩ := (HL.out.later (RowR.stays slR.stays) (below_then HB.out HBR.out)).at hl
      subst hA
      subst hr
      obtain ⟨A4, c4, hu4, hr4⟩ := hru.shape
      obtain ⟨n4, hn4⟩ : ∃ n4, l.length = n4 := ⟨_, rfl⟩
      rw [hn4] at hu4 hr4
      subst hu4
      have hn4m : n4 ≤ 9223372036854775807 := by unfold maxLen at hr4; omega
      have HN4 := hid hn4
      have HX := hid hl
      have HRU := hid hru
      have HRC := hid (show wr.cell? ⟨b, o + k, none⟩ = some (.slice A4 n4 c4) from by simpa using hcs 0 _ rfl)
      have HBL := hid hbl
      clear hl hcs hru hbl hn4 hr4
      obtain ⟨ws, hws⟩ : ∃ ws, ws = wr := ⟨_, rfl⟩
      subst hws
      go_wp2_with fail
      clear t0
      go_loopw [8] (fun v wr => ∃ c : Nat, (c ≤ nc ∨ c ≤ n4) ∧ v = .int .i64 c ∧ Hid (∀ c', c' < c → okC nc nt l c' = true) ∧ Hid (Below ws.heap.size ws wr)) (fun v _ => nc + n4 - (intOf v).toNat)
      case atStart => exact ⟨0, by omega, rfl, hid (fun c' h => by omega), hid (Below.refl _ _)⟩
      case round =>
        obtain ⟨c, hc, rfl, HFC, HBI⟩ := hrel
        have HQC := hid (⟨(fr0 (below_then HBR.out HBI.out)).blk HQ.out.1 (fun h => h), (fr0 (below_then HBR.out HBI.out)).blk HQ.out.2 (fun h => h)⟩ : wr.heap[w.heap.size]? = some (.cells #[.int .i64 (nc : Int), .int .i64 S.policy, .int .i64 S.prot, .int .i64 S.rel, .int .i64 S.sw, .int .i64 S.fin, .int .i64 S.lat, .int .i64 S.resn, .slice At nt ct, ev, cv] 28 (0, 0)) ∧ wr.heap[w.heap.size + 1]? = some (.cells #[.slice (some ⟨b, o, none⟩) n cp, jv] 32 (0, 0)))
        have HBC := hid (below_then (below_then HB.out HBR.out) HBI.out)
        obtain ⟨C, hC⟩ : ∃ C : World → Prop, C = fun W => Below wr.heap.size wr W := ⟨_, rfl⟩
        have FT0 := hid (fun W (h : C W) => (show W.cell? ⟨w.heap.size, 0, none⟩ = some (.int .i64 (nc : Int)) from by rw [hC] at h; exact blk_cell ((fr0 h).blk HQC.out.1 (fun h => h)) 0))
        have FT1 := hid (fun W (h : C W) => (show W.cell? ⟨w.heap.size, 1, none⟩ = some (.int .i64 S.policy) from by rw [hC] at h; exact blk_cell ((fr0 h).blk HQC.out.1 (fun h => h)) 1))
        have FT2 := hid (fun W (h : C W) => (show W.cell? ⟨w.heap.size, 2, none⟩ = some (.int .i64 S.prot) from by rw [hC] at h; exact blk_cell ((fr0 h).blk HQC.out.1 (fun h => h)) 2))
        have FT3 := hid (fun W (h : C W) => (show W.cell? ⟨w.heap.size, 3, none⟩ = some (.int .i64 S.rel) from by rw [hC] at h; exact blk_cell ((fr0 h).blk HQC.out.1 (fun h => h)) 3))
        have FT4 := hid (fun W (h : C W) => (show W.cell? ⟨w.heap.size, 4, none⟩ = some (.int .i64 S.sw) from by rw [hC] at h; exact blk_cell ((fr0 h).blk HQC.out.1 (fun h => h)) 4))
        have FT5 := hid (fun W (h : C W) => (show W.cell? ⟨w.heap.size, 5, none⟩ = some (.int .i64 S.fin) from by rw [hC] at h; exact blk_cell ((fr0 h).blk HQC.out.1 (fun h => h)) 5))
        have FT6 := hid (fun W (h : C W) => (show W.cell? ⟨w.heap.size, 6, none⟩ = some (.int .i64 S.lat) from by rw [hC] at h; exact blk_cell ((fr0 h).blk HQC.out.1 (fun h => h)) 6))
        have FT7 := hid (fun W (h : C W) => (show W.cell? ⟨w.heap.size, 7, none⟩ = some (.int .i64 S.resn) from by rw [hC] at h; exact blk_cell ((fr0 h).blk HQC.out.1 (fun h => h)) 7))
        have FT8 := hid (fun W (h : C W) => (show W.cell? ⟨w.heap.size, 8, none⟩ = some (.slice At nt ct) from by rw [hC] at h; exact blk_cell ((fr0 h).blk HQC.out.1 (fun h => h)) 8))
        have FT9 := hid (fun W (h : C W) => (show W.cell? ⟨w.heap.size, 9, none⟩ = some (ev) from by rw [hC] at h; exact blk_cell ((fr0 h).blk HQC.out.1 (fun h => h)) 9))
        have FT10 := hid (fun W (h : C W) => (show W.cell? ⟨w.heap.size, 10, none⟩ = some (cv) from by rw [hC] at h; exact blk_cell ((fr0 h).blk HQC.out.1 (fun h => h)) 10))
        have FX := hid (fun W (h : C W) => (show W.cell? ⟨w.heap.size + 1, 0, none⟩ = some (.slice (some ⟨b, o, none⟩) n cp) from by rw [hC] at h; exact blk_cell ((fr0 h).blk HQC.out.2 (fun h => h)) 0))
        have FR := hid (fun W (h : C W) => (show W.cell? ⟨b, o + k, none⟩ = some (.slice A4 n4 c4) from by rw [hC] at h; exact ((below_then HBI.out h).cell (p := ⟨b, o + k, none⟩) HBL.out).trans HRC.out))
        have HCC := hid hC
        have a0 := FT0.out wr (by rw [hC]; exact Below.refl _ _)
        have a1 := FX.out wr (by rw [hC]; exact Below.refl _ _)
        have a2 := FR.out wr (by rw [hC]; exact Below.refl _ _)
        clear hC
        have HRES := hid (show (c < nc ∨ c < n4) → okC nc nt l c = false → Shp nc nt X.slots k c true from fun h1 h2 => .inr ⟨rfl, k, c, l, rfl, rfl, HX.out, (by rw [HN4.out]; exact h1), h2, HFC.out, HF.out⟩)
        by_cases h1 : c < nc
        case pos =>
          by_cases h2 : c < n4
          case pos =>
            obtain ⟨s, hs⟩ : ∃ s, l[c]? = some s := ⟨_, List.getElem?_eq_getElem (by have := HN4.out; omega)⟩
            obtain ⟨b5, o5, cs5, hA5, hbl5, _, hc5, hr5⟩ := (HRU.out.later slR.stays HBI.out).at hs
            subst hA5
            have hr5' : cs5 = [.int .i64 s.kind, .int .i64 s.task, .int .i64 s.oth] := hr5
            subst hr5'
            obtain ⟨sb, hsb⟩ : ∃ v, shapeB nt s = v := ⟨_, rfl⟩
            have HOK := hid (show okC nc nt l c = sb from by unfold okC; rw [decide_eq_true h1, hs, ← hsb]; rfl)
            have FSH := hid (fun W (h : C W) => ((HSH.out W s).mono (fun e w' q => (show e = .returned (.bool sb) ∧ C w' from ⟨by rw [q.1, hsb], by rw [HCC.out] at h ⊢; exact below_then h q.2⟩))))
            obtain ⟨sk, st, so⟩ := s
            simp only at hc5 FSH
            have FC0 := hid (fun W (h : C W) => (show W.cell? ⟨b5, o5 + c * 3, none⟩ = some (.int .i64 sk) from by rw [HCC.out] at h; exact (h.cell (p := ⟨b5, o5 + c * 3, none⟩) hbl5).trans (by simpa using hc5 0 _ rfl)))
            have FC1 := hid (fun W (h : C W) => (show W.cell? ⟨b5, o5 + c * 3 + 1, none⟩ = some (.int .i64 st) from by rw [HCC.out] at h; exact (h.cell (p := ⟨b5, o5 + c * 3 + 1, none⟩) hbl5).trans (hc5 1 _ rfl)))
            have FC2 := hid (fun W (h : C W) => (show W.cell? ⟨b5, o5 + c * 3 + 2, none⟩ = some (.int .i64 so) from by rw [HCC.out] at h; exact (h.cell (p := ⟨b5, o5 + c * 3 + 2, none⟩) hbl5).trans (hc5 2 _ rfl)))
            clear hs hbl5 hc5 hr5 hsb
            go_upto_region 7 with fail
            clear a0 a1 a2
            have hg1 : ¬ (nc : Int) ≤ (c : Int) := by omega
            have hg2 : ¬ (n4 : Int) ≤ (c : Int) := by omega
            have hg3 : decide (nc ≤ c) = false := decide_eq_false (by omega)
            have hg4 : decide (n4 ≤ c) = false := decide_eq_false (by omega)
            cases sb
            case false =>
              replace HRES := hid (HRES.out (.inl h1) HOK.out)
              refine wp_region_class (C := C) (by kernel_rfl) (by kernel_rfl) (by rw [HCC.out]; exact (Below.refl _ _).drew) ?_
              repeat (refine wpQuiet_step (fun K hK => ?_); (first | (rw [if_neg (by exact Bool.false_ne_true)]; refine hK _ ?_) | (rw [if_pos (by rfl)]; refine Exists.intro ?_ (And.intro (fun W HW => ?_) (hK _ ?_)); rotate_left; (focus (first | (go_simp; exact FSH.out W HW) | (have q0 := FT0.out W HW; have q1 := FT1.out W HW; have q2 := FT2.out W HW; have q3 := FT3.out W HW; have q4 := FT4.out W HW; have q5 := FT5.out W HW; have q6 := FT6.out W HW; have q7 := FT7.out W HW; have q8 := FT8.out W HW; have q9 := FT9.out W HW; have q10 := FT10.out W HW; have q11 := FX.out W HW; have q12 := FR.out W HW; have q13 := FC0.out W HW; have q14 := FC1.out W HW; have q15 := FC2.out W HW; (go_simp); all_goals (with_reducible rfl)))))); clear hK K; try simp only [Act.put, List.setIfInBounds_toArray, List.set_cons_zero, List.set_cons_succ])
              refine wpQuiet_nil ?_
              intro wd hCw
              have HBW := hid (show Below w.heap.size w wd from by rw [HCC.out] at hCw; exact below_then HBC.out hCw)
              clear hCw
              go_wp2_with fail
              go_ret3
              first | exact ⟨(k : Int), (c : Int), true, rfl, HRES.out, HBW.out⟩ | exact ⟨(k : Int), (c : Int), .inr ⟨rfl, HRES.out, HBW.out⟩⟩
            case true =>
              have HFN := hid (show ∀ c', c' < c + 1 → okC nc nt l c' = true from fun c' h => by
                by_cases e : c' = c
                · rw [e]; exact HOK.out
                · exact HFC.out c' (by omega))
              refine wp_region_class (C := C) (by kernel_rfl) (by kernel_rfl) (by rw [HCC.out]; exact (Below.refl _ _).drew) ?_
              repeat (refine wpQuiet_step (fun K hK => ?_); (first | (rw [if_neg (by exact Bool.false_ne_true)]; refine hK _ ?_) | (rw [if_pos (by rfl)]; refine Exists.intro ?_ (And.intro (fun W HW => ?_) (hK _ ?_)); rotate_left; (focus (first | (go_simp; exact FSH.out W HW) | (have q0 := FT0.out W HW; have q1 := FT1.out W HW; have q2 := FT2.out W HW; have q3 := FT3.out W HW; have q4 := FT4.out W HW; have q5 := FT5.out W HW; have q6 := FT6.out W HW; have q7 := FT7.out W HW; have q8 := FT8.out W HW; have q9 := FT9.out W HW; have q10 := FT10.out W HW; have q11 := FX.out W HW; have q12 := FR.out W HW; have q13 := FC0.out W HW; have q14 := FC1.out W HW; have q15 := FC2.out W HW; (go_simp); all_goals (with_reducible rfl)))))); clear hK K; try simp only [Act.put, List.setIfInBounds_toArray, List.set_cons_zero, List.set_cons_succ])
              refine wpQuiet_nil ?_
              intro wd hCw
              have HBW := hid (show Below ws.heap.size ws wd from by rw [HCC.out] at hCw; exact below_then HBI.out hCw)
              clear hCw
              go_wp2_with fail
              go_roundw
              case rel => exact ⟨c + 1, by omega, by go_num, HFN, HBW⟩
              case measure => simp [intOf]; omega
          case neg =>
            have hg3 : decide (nc ≤ c) = false := decide_eq_false (by omega)
            have hg4 : decide (n4 ≤ c) = true := decide_eq_true (by omega)
            replace HRES := hid (HRES.out (.inl h1) (by unfold okC; rw [List.getElem?_eq_none (by rw [HN4.out]; omega)]; simp))
            go_upto_region 7 with fail
            clear a0 a1 a2
            refine wp_region_class (C := C) (by kernel_rfl) (by kernel_rfl) (by rw [HCC.out]; exact (Below.refl _ _).drew) ?_
            repeat (refine wpQuiet_step (fun K hK => ?_); (first | (rw [if_neg (by exact Bool.false_ne_true)]; refine hK _ ?_) | (rw [if_pos (by rfl)]; refine Exists.intro ?_ (And.intro (fun W HW => ?_) (hK _ ?_)); rotate_left; (focus (first | (have q0 := FT0.out W HW; have q1 := FX.out W HW; have q2 := FR.out W HW; (go_simp); all_goals (with_reducible rfl)))))); clear hK K; try simp only [Act.put, List.setIfInBounds_toArray, List.set_cons_zero, List.set_cons_succ])
            refine wpQuiet_nil ?_
            intro wd hCw
            have HBW := hid (show Below w.heap.size w wd from by rw [HCC.out] at hCw; exact below_then HBC.out hCw)
            clear hCw
            go_wp2_with fail
            go_ret3
            first | exact ⟨(k : Int), (c : Int), true, rfl, HRES.out, HBW.out⟩ | exact ⟨(k : Int), (c : Int), .inr ⟨rfl, HRES.out, HBW.out⟩⟩
        case neg =>
          by_cases h2 : c < n4
          case pos =>
            have hg3 : decide (nc ≤ c) = true := decide_eq_true (by omega)
            replace HRES := hid (HRES.out (.inr h2) (by unfold okC; rw [decide_eq_false h1]; rfl))
            go_upto_region 7 with fail
            clear a0 a1 a2
            refine wp_region_class (C := C) (by kernel_rfl) (by kernel_rfl) (by rw [HCC.out]; exact (Below.refl _ _).drew) ?_
            repeat (refine wpQuiet_step (fun K hK => ?_); (first | (rw [if_neg (by exact Bool.false_ne_true)]; refine hK _ ?_) | (rw [if_pos (by rfl)]; refine Exists.intro ?_ (And.intro (fun W HW => ?_) (hK _ ?_)); rotate_left; (focus (first | (have q0 := FT0.out W HW; have q1 := FX.out W HW; have q2 := FR.out W HW; (go_simp); all_goals (with_reducible rfl)))))); clear hK K; try simp only [Act.put, List.setIfInBounds_toArray, List.set_cons_zero, List.set_cons_succ])
            refine wpQuiet_nil ?_
            intro wd hCw
            have HBW := hid (show Below w.heap.size w wd from by rw [HCC.out] at hCw; exact below_then HBC.out hCw)
            clear hCw
            go_wp2_with fail
            go_ret3
            first | exact ⟨(k : Int), (c : Int), true, rfl, HRES.out, HBW.out⟩ | exact ⟨(k : Int), (c : Int), .inr ⟨rfl, HRES.out, HBW.out⟩⟩
          case neg =>
            have HFN := hid (show ∀ t' l', t' < k + 1 → X.slots[t']? = some l' → rowOk nc nt l' from fun t' l' h3 h4 => by
              by_cases e : t' = k
              · subst e
                rw [HX.out] at h4
                injection h4 with h4
                rw [← h4]
                intro c' hc'
                rw [HN4.out] at hc'
                exact HFC.out c' (by omega)
              · exact HF.out t' l' (by omega) h4)
            have HBN := hid (below_then HBR.out HBI.out)
            go_wp2_with fail
            go_roundw
            case rel => exact ⟨k + 1, by omega, by go_num, HFN, HBN⟩
            case measure => simp [intOf]; omega
    case neg =>
      obtain rfl : k = n := by omega
      have HRES := hid (show Shp nc nt X.slots 0 0 false from .inl ⟨rfl, rfl, rfl, fun l hl => by
        obtain ⟨i, hi⟩ := List.mem_iff_getElem?.1 hl
        exact HF.out i l (by have := (List.getElem?_eq_some_iff.1 hi).1; have := HN.out; omega) hi⟩)
      have HBW := hid (below_then HB.out HBR.out)
      go_wp2_with fail
      go_ret3
      exact ⟨0, 0, false, rfl, HRES.out, HBW.out⟩
end
end Go.Proofs.Ytmhochjpdedlgaa
