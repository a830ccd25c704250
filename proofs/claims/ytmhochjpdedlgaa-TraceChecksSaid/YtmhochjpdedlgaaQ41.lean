/- Joined: RMake19. -/
import Derived.Test.YtmhochjpdedlgaaQ39
import Derived.Test.YtmhochjpdedlgaaQ40
import Derived.Deep.RegionLaw
set_option linter.unusedVariables false
set_option linter.unusedSimpArgs false
/- Package tourbillonref19: Make (contract). -/
set_option linter.unusedVariables false
set_option linter.unusedSimpArgs false
namespace Go.Proofs.Ytmhochjpdedlgaa
open Go.RowKit

def mkT (S : Sy) (P : Pl) (L : List Int) : Tb := ⟨S, ((rankL S P).zip L).map fun x => ⟨x.1, x.2⟩, ceilL S P⟩
def makeB (S : Sy) (P : Pl) (L : List Int) : Bool := planB S P && (decide (L.length = P.length) && tabB (mkT S P L))
def tab0 : Value := .agg #[.int .i64 0, .int .i64 0, .int .i64 0, .int .i64 0, .int .i64 0, .int .i64 0, .int .i64 0, .int .i64 0, .slice none 0 0, .slice none 0 0, .slice none 0 0]
theorem Try.info_entry : (Try.prog.info? 95).map (fun i => (i.zero, i.size, i.bytes)) = some (some (.agg #[.slice none 0 0, .int .i64 0]), 2, 32) := by kernel_rfl
def encE (x : Value × Int) : List Value := [x.1, .int .i64 x.2]
theorem encE_len (x : Value × Int) : (encE x).length = 2 := rfl
/-- The entries while they are made. -/
structure EG (w0 w : World) (base : Nat) (u : Value) (xs : List (Value × Int)) (Q : List En) : Prop where
  out : w.ownsRow base 95 2 u xs.length (flat encE xs)
  len : xs.length = Q.length
  rows : ∀ (i : Nat) x e, xs[i]? = some x → Q[i]? = some e → e.bound = x.2 ∧ Rowp 5 pcR w0 x.1 e.ps
theorem EG.nil (w0 w : World) (base : Nat) : EG w0 w base (.slice none 0 0) [] [] := ⟨World.ownsRow_nil _ _ _ _, rfl, fun i x e h => by simp at h⟩
theorem EG.later {w0 w w' : World} {base : Nat} {u : Value} {xs : List (Value × Int)} {Q : List En} (h : EG w0 w base u xs Q) (k : Below w.heap.size w w') : EG w0 w' base u xs Q := ⟨own_kept h.out (fr0 k) (fun _ _ h => h), h.len, h.rows⟩
theorem EG.snoc {w0 w w' : World} {base : Nat} {u u' : Value} {xs : List (Value × Int)} {x : Value × Int} {Q : List En} {e : En} (h : EG w0 w base u xs Q) (hv : e.bound = x.2 ∧ Rowp 5 pcR w0 x.1 e.ps) (hown : w'.ownsRow base 95 2 u' (xs.length + 1) (flat encE xs ++ encE x)) : EG w0 w' base u' (xs ++ [x]) (Q ++ [e]) := by
  refine ⟨by rw [List.length_append, flat_append]; simpa [flat] using hown, by simp [h.len], fun i y z hx hy => ?_⟩
  by_cases hi : i < xs.length
  · rw [List.getElem?_append_left hi] at hx
    rw [List.getElem?_append_left (by have := h.len; omega)] at hy
    exact h.rows i y z hx hy
  · have hi2 : i = xs.length := by have := (List.getElem?_eq_some_iff.1 hx).1; simp at this; omega
    subst hi2
    rw [List.getElem?_append_right (Nat.le_refl _)] at hx
    rw [List.getElem?_append_right (by have := h.len; omega)] at hy
    simp at hx
    rw [h.len] at hy
    simp at hy
    subst hx
    subst hy
    exact hv
theorem EG.tab {w0 w : World} {base : Nat} {u : Value} {xs : List (Value × Int)} {Q : List En} (h : EG w0 w base u xs Q) (hb : Below w0.heap.size w0 w) : Rowp 2 entR w u Q := by
  have hfl : flat (fun x : (Value × Int) × En => encE x.1) (xs.zip Q) = flat encE xs := by
    have : ∀ (xs : List (Value × Int)) (Q : List En), xs.length = Q.length → flat (fun x : (Value × Int) × En => encE x.1) (xs.zip Q) = flat encE xs := by
      intro xs
      induction xs with
      | nil => intro Q _; simp [flat]
      | cons a xs ih =>
        intro Q hQ
        cases Q with
        | nil => simp at hQ
        | cons q Q =>
          have := ih Q (by simpa using hQ)
          simp [flat] at this ⊢
          exact this
    exact this xs Q h.len
  have h1 : Rowp 2 (fun w cs (x : (Value × Int) × En) => cs = encE x.1 ∧ x.2.bound = x.1.2 ∧ Rowp 5 pcR w x.1.1 x.2.ps) w u (xs.zip Q) := by
    refine Rowp.of_own (base := base) (e := 95) (n := xs.length) (enc := fun x => encE x.1) (fun x => rfl) (by rw [hfl]; exact h.out) (by rw [List.length_zip, h.len]; simp) (by decide) (fun x hx => ⟨rfl, ?_⟩)
    obtain ⟨i, hi⟩ := List.mem_iff_getElem?.1 hx
    rw [List.getElem?_zip_eq_some] at hi
    obtain ⟨h2, h3⟩ := h.rows i _ _ hi.1 hi.2
    exact ⟨h2, h3.later pcR.stays hb⟩
  have h2 := h1.mono (R' := entR) (f := Prod.snd) (fun cs x _ hr => ⟨x.1.1, by rw [hr.1, ← hr.2.1.symm]; rfl, hr.2.2⟩)
  rwa [List.map_snd_zip (by rw [h.len]; exact Nat.le_refl _)] at h2
theorem rankRow_wf {S : Sy} {P : Pl} (hw : ∀ l ∈ P, ∀ p ∈ l, Pc.Wf p) (hlen : (partsOf P).length < 1000000) : ∀ l ∈ rankL S P, ∀ p ∈ l, Pc.Wf p := by
  intro l hl p hp
  unfold rankL at hl
  obtain ⟨i, hi, rfl⟩ := List.mem_mapIdx.1 hl
  unfold rankRow at hp
  obtain ⟨q, hq, rfl⟩ := List.mem_map.1 hp
  have := hw _ (List.getElem_mem hi) q hq
  refine ⟨this.c, this.b, this.d, ?_⟩
  unfold rankOne I64
  simp only
  have h2 : aheadL i q (partsOf P) ≤ (partsOf P).length := List.length_filter_le _ _
  split <;> omega
/-- Eleven stores put a table into a block. -/
def st11 (w : World) (b : Nat) (v0 v1 v2 v3 v4 v5 v6 v7 v8 v9 v10 : Value) : World := (((((((((((w.setCell ⟨b, 0, none⟩ v0).setCell ⟨b, 1, none⟩ v1).setCell ⟨b, 2, none⟩ v2).setCell ⟨b, 3, none⟩ v3).setCell ⟨b, 4, none⟩ v4).setCell ⟨b, 5, none⟩ v5).setCell ⟨b, 6, none⟩ v6).setCell ⟨b, 7, none⟩ v7).setCell ⟨b, 8, none⟩ v8).setCell ⟨b, 9, none⟩ v9).setCell ⟨b, 10, none⟩ v10)
theorem blk_st11 {w : World} {b : Nat} {a0 a1 a2 a3 a4 a5 a6 a7 a8 a9 a10 v0 v1 v2 v3 v4 v5 v6 v7 v8 v9 v10 : Value} {t : TypeId} {f : Nat × Nat} (h : w.heap[b]? = some (.cells #[a0, a1, a2, a3, a4, a5, a6, a7, a8, a9, a10] t f)) : (st11 w b v0 v1 v2 v3 v4 v5 v6 v7 v8 v9 v10).heap[b]? = some (.cells #[v0, v1, v2, v3, v4, v5, v6, v7, v8, v9, v10] t f) := by
  have h0 := blk_set h 0 v0
  have h1 := blk_set h0 1 v1
  have h2 := blk_set h1 2 v2
  have h3 := blk_set h2 3 v3
  have h4 := blk_set h3 4 v4
  have h5 := blk_set h4 5 v5
  have h6 := blk_set h5 6 v6
  have h7 := blk_set h6 7 v7
  have h8 := blk_set h7 8 v8
  have h9 := blk_set h8 9 v9
  have h10 := blk_set h9 10 v10
  simp only [List.setIfInBounds_toArray, List.set_cons_zero, List.set_cons_succ] at h10
  unfold st11
  exact h10
theorem fr_st11 {w0 w : World} {b : Nat} (h : Fr (One b) w0 w) (v0 v1 v2 v3 v4 v5 v6 v7 v8 v9 v10 : Value) : Fr (One b) w0 (st11 w b v0 v1 v2 v3 v4 v5 v6 v7 v8 v9 v10) := ((((((((((h.one 0 v0).one 1 v1).one 2 v2).one 3 v3).one 4 v4).one 5 v5).one 6 v6).one 7 v7).one 8 v8).one 9 v9).one 10 v10
section
variable {w : World}
set_option maxRecDepth 100000 in
set_option maxHeartbeats 6400000 in
theorem rmake_any (S : Sy) (A0 : Option Addr) (n0 c0 : Nat) (A : Option Addr) (n cap : Nat) (P : Pl) (A2 : Option Addr) (n2 c2 : Nat) (L : List Int) (hs : IsSys w (.slice A0 n0 c0) S) (hp : IsPlan w (.slice A n cap) P) (hl : Rowp 1 IntR w (.slice A2 n2 c2) L) (hlw : ∀ b ∈ L, I64 b) :
    Calls Try.prog 73 #[sysV S (.slice A0 n0 c0), .slice A n cap, .slice A2 n2 c2] w fun e w' =>
      (makeB S P L = false ∧ e = .returned (.tuple #[tab0, .bool false]) ∧ Below w.heap.size w w') ∨
      (makeB S P L = true ∧ ∃ A1 n1 c1 A3 n3 c3, e = .returned (.tuple #[tabV S (.slice A0 n0 c0) (.slice A1 n1 c1) (.slice A3 n3 c3), .bool true]) ∧ IsTab w' (.slice A0 n0 c0) (.slice A1 n1 c1) (.slice A3 n3 c3) (mkT S P L) ∧ Below w.heap.size w w' ∧ ∀ a, A3 = some a → w.heap.size ≤ a.block) := by
  have hn := hp.rows.len
  have hn2 := hl.len
  have hnm : n ≤ 9223372036854775807 := by have := hp.rows.room; unfold maxLen at this; omega
  have hnm2 : n2 ≤ 9223372036854775807 := by have := hl.room; unfold maxLen at this; omega
  have HS := hid hs
  have HP := hid hp
  have HL := hid hl
  have HLW := hid hlw
  have HN := hid hn
  have HN2 := hid hn2
  have HRA := hid (fun W (h : Below w.heap.size w W) => rrank_og (w := W) S A0 n0 c0 A n cap P (hs.later h) (hp.later h))
  have HCA := hid (fun W (h : Below w.heap.size w W) => rceil_oi (w := W) S A0 n0 c0 A n cap P (hs.later h) (hp.later h))
  obtain ⟨i0, hi, hz0, hz1, hz2⟩ := info_parts Try.info_entry
  have hq0 := blk_old (blk_new w (.cells (sysC S (.slice A0 n0 c0)) 24)) (.cells #[.int .i64 0, .int .i64 0, .int .i64 0, .int .i64 0, .int .i64 0, .int .i64 0, .int .i64 0, .int .i64 0, .slice none 0 0, .slice none 0 0, .slice none 0 0] 28)
  have hq6 := blk_new (w.alloc (.cells (sysC S (.slice A0 n0 c0)) 24)) (.cells #[.int .i64 0, .int .i64 0, .int .i64 0, .int .i64 0, .int .i64 0, .int .i64 0, .int .i64 0, .int .i64 0, .slice none 0 0, .slice none 0 0, .slice none 0 0] 28)
  have hbel := below_new (below_new (Below.refl w.heap.size w) (.cells (sysC S (.slice A0 n0 c0)) 24)) (.cells #[.int .i64 0, .int .i64 0, .int .i64 0, .int .i64 0, .int .i64 0, .int .i64 0, .int .i64 0, .int .i64 0, .slice none 0 0, .slice none 0 0, .slice none 0 0] 28)
  rw [show (w.alloc (.cells (sysC S (.slice A0 n0 c0)) 24)).heap.size = w.heap.size + 1 by simp] at hq6
  unfold sysC at hq0 hq6 hbel
  unfold sysV at *
  clear hs hp hl hlw hn hn2
  go_enter Try.func73, Try.ntmps73
  go_upto_region 1 with fail
  generalize (w.alloc (.cells #[.int .i64 S.cores, .int .i64 S.policy, .int .i64 S.prot, .int .i64 S.rel, .int .i64 S.sw, .int .i64 S.fin, .int .i64 S.lat, .int .i64 S.resn, .slice A0 n0 c0] 24)).alloc (.cells #[.int .i64 0, .int .i64 0, .int .i64 0, .int .i64 0, .int .i64 0, .int .i64 0, .int .i64 0, .int .i64 0, .slice none 0 0, .slice none 0 0, .slice none 0 0] 28) = w1 at hq0 hq6 hbel ⊢
  have s0 : w1.cell? ⟨w.heap.size, 0, none⟩ = some (.int .i64 S.cores) := blk_cell hq0 0
  have s1 : w1.cell? ⟨w.heap.size, 1, none⟩ = some (.int .i64 S.policy) := blk_cell hq0 1
  have s2 : w1.cell? ⟨w.heap.size, 2, none⟩ = some (.int .i64 S.prot) := blk_cell hq0 2
  have s3 : w1.cell? ⟨w.heap.size, 3, none⟩ = some (.int .i64 S.rel) := blk_cell hq0 3
  have s4 : w1.cell? ⟨w.heap.size, 4, none⟩ = some (.int .i64 S.sw) := blk_cell hq0 4
  have s5 : w1.cell? ⟨w.heap.size, 5, none⟩ = some (.int .i64 S.fin) := blk_cell hq0 5
  have s6 : w1.cell? ⟨w.heap.size, 6, none⟩ = some (.int .i64 S.lat) := blk_cell hq0 6
  have s7 : w1.cell? ⟨w.heap.size, 7, none⟩ = some (.int .i64 S.resn) := blk_cell hq0 7
  have s8 : w1.cell? ⟨w.heap.size, 8, none⟩ = some (.slice A0 n0 c0) := blk_cell hq0 8
  have HQ0 := hid hq0
  have HQ6 := hid hq6
  have HB1 := hid hbel
  have HW1S := hid (show w.heap.size + 2 ≤ w1.heap.size from by have := blk_lt hq6; omega)
  clear hq0 hq6 hbel
  go_wp2_with fail
  refine (HRA.out _ HB1.out).mono ?_
  rintro e w2 ⟨ur, rfl, hrw, hb2⟩
  have HB2 := hid (below_then HB1.out hb2)
  have HW2S := hid hb2.size
  have HQ02 := hid ((fr0 hb2).blk HQ0.out (fun h => h))
  have HQ62 := hid ((fr0 hb2).blk HQ6.out (fun h => h))
  obtain ⟨rb, hrb⟩ : ∃ r, planB S P = r := ⟨_, rfl⟩
  have HRB := hid hrb
  rw [hrb] at hrw ⊢
  have HRW := hid hrw
  clear hrb hrw hb2 HQ0 HQ6 s0 s1 s2 s3 s4 s5 s6 s7 s8
  cases rb
  case false =>
    have HF := hid (show makeB S P L = false from by unfold makeB; rw [HRB.out]; rfl)
    obtain ⟨wz, hwz⟩ : ∃ wz, wz = st11 w2 (w.heap.size + 1) (.int .i64 0) (.int .i64 0) (.int .i64 0) (.int .i64 0) (.int .i64 0) (.int .i64 0) (.int .i64 0) (.int .i64 0) (.slice none 0 0) (.slice none 0 0) (.slice none 0 0) := ⟨_, rfl⟩
    have hqz := blk_st11 (v0 := .int .i64 0) (v1 := .int .i64 0) (v2 := .int .i64 0) (v3 := .int .i64 0) (v4 := .int .i64 0) (v5 := .int .i64 0) (v6 := .int .i64 0) (v7 := .int .i64 0) (v8 := .slice none 0 0) (v9 := .slice none 0 0) (v10 := .slice none 0 0) HQ62.out
    have hfz := fr_st11 (Fr.refl (One (w.heap.size + 1)) w2) (.int .i64 0) (.int .i64 0) (.int .i64 0) (.int .i64 0) (.int .i64 0) (.int .i64 0) (.int .i64 0) (.int .i64 0) (.slice none 0 0) (.slice none 0 0) (.slice none 0 0)
    rw [← hwz] at hqz hfz
    unfold st11 at hwz
    have HWZ := hid hwz
    have HQZ := hid hqz
    have HBZ := hid (show Below w.heap.size w wz from ((Fr.of_below (S := NoB) HB2.out).trans hfz (fun x hx => .inr (by have h3 : x = w.heap.size + 1 := hx; omega))).no)
    clear hwz hqz hfz
    have z0 : w2.cell? ⟨w.heap.size + 1, 0, none⟩ = some (.int .i64 0) := blk_cell HQ62.out 0
    have z1 : w2.cell? ⟨w.heap.size + 1, 1, none⟩ = some (.int .i64 0) := blk_cell HQ62.out 1
    have z2 : w2.cell? ⟨w.heap.size + 1, 2, none⟩ = some (.int .i64 0) := blk_cell HQ62.out 2
    have z3 : w2.cell? ⟨w.heap.size + 1, 3, none⟩ = some (.int .i64 0) := blk_cell HQ62.out 3
    have z4 : w2.cell? ⟨w.heap.size + 1, 4, none⟩ = some (.int .i64 0) := blk_cell HQ62.out 4
    have z5 : w2.cell? ⟨w.heap.size + 1, 5, none⟩ = some (.int .i64 0) := blk_cell HQ62.out 5
    have z6 : w2.cell? ⟨w.heap.size + 1, 6, none⟩ = some (.int .i64 0) := blk_cell HQ62.out 6
    have z7 : w2.cell? ⟨w.heap.size + 1, 7, none⟩ = some (.int .i64 0) := blk_cell HQ62.out 7
    have z8 : w2.cell? ⟨w.heap.size + 1, 8, none⟩ = some (.slice none 0 0) := blk_cell HQ62.out 8
    have z9 : w2.cell? ⟨w.heap.size + 1, 9, none⟩ = some (.slice none 0 0) := blk_cell HQ62.out 9
    have z10 : w2.cell? ⟨w.heap.size + 1, 10, none⟩ = some (.slice none 0 0) := blk_cell HQ62.out 10
    have zf : ∀ k, w2.frozen? ⟨w.heap.size + 1, k, none⟩ = false := fun k => blk_free HQ62.out k
    go_wp2_with fail
    rw [← HWZ.out]
    clear z0 z1 z2 z3 z4 z5 z6 z7 z8 z9 z10 zf
    have y0 : wz.cell? ⟨w.heap.size + 1, 0, none⟩ = some (.int .i64 0) := blk_cell HQZ.out 0
    have y1 : wz.cell? ⟨w.heap.size + 1, 1, none⟩ = some (.int .i64 0) := blk_cell HQZ.out 1
    have y2 : wz.cell? ⟨w.heap.size + 1, 2, none⟩ = some (.int .i64 0) := blk_cell HQZ.out 2
    have y3 : wz.cell? ⟨w.heap.size + 1, 3, none⟩ = some (.int .i64 0) := blk_cell HQZ.out 3
    have y4 : wz.cell? ⟨w.heap.size + 1, 4, none⟩ = some (.int .i64 0) := blk_cell HQZ.out 4
    have y5 : wz.cell? ⟨w.heap.size + 1, 5, none⟩ = some (.int .i64 0) := blk_cell HQZ.out 5
    have y6 : wz.cell? ⟨w.heap.size + 1, 6, none⟩ = some (.int .i64 0) := blk_cell HQZ.out 6
    have y7 : wz.cell? ⟨w.heap.size + 1, 7, none⟩ = some (.int .i64 0) := blk_cell HQZ.out 7
    have y8 : wz.cell? ⟨w.heap.size + 1, 8, none⟩ = some (.slice none 0 0) := blk_cell HQZ.out 8
    have y9 : wz.cell? ⟨w.heap.size + 1, 9, none⟩ = some (.slice none 0 0) := blk_cell HQZ.out 9
    have y10 : wz.cell? ⟨w.heap.size + 1, 10, none⟩ = some (.slice none 0 0) := blk_cell HQZ.out 10
    exact bodyPost_ret (v := .tuple #[tab0, .bool false]) (by simp [results, Try.results73, go_sem, tab0, y0, y1, y2, y3, y4, y5, y6, y7, y8, y9, y10]) rfl (.inl ⟨HF.out, rfl, HBZ.out⟩)
  case true =>
    have HOK := hid (planB_ok HRB.out)
    have hn24 : n ≤ 24 := by have h1 := HOK.out.len; have h2 := HOK.out.sys.len; have := HN.out; omega
    by_cases hnn : n2 = n
    case neg =>
      have hne : ((n2 : Int) != (n : Int)) = true := bne_iff_ne.2 (by omega)
      have HF := hid (show makeB S P L = false from by unfold makeB; rw [HRB.out, decide_eq_false (fun e => hnn (by rw [HN2.out, HN.out, e]))]; rfl)
      obtain ⟨wz, hwz⟩ : ∃ wz, wz = st11 w2 (w.heap.size + 1) (.int .i64 0) (.int .i64 0) (.int .i64 0) (.int .i64 0) (.int .i64 0) (.int .i64 0) (.int .i64 0) (.int .i64 0) (.slice none 0 0) (.slice none 0 0) (.slice none 0 0) := ⟨_, rfl⟩
      have hqz := blk_st11 (v0 := .int .i64 0) (v1 := .int .i64 0) (v2 := .int .i64 0) (v3 := .int .i64 0) (v4 := .int .i64 0) (v5 := .int .i64 0) (v6 := .int .i64 0) (v7 := .int .i64 0) (v8 := .slice none 0 0) (v9 := .slice none 0 0) (v10 := .slice none 0 0) HQ62.out
      have hfz := fr_st11 (Fr.refl (One (w.heap.size + 1)) w2) (.int .i64 0) (.int .i64 0) (.int .i64 0) (.int .i64 0) (.int .i64 0) (.int .i64 0) (.int .i64 0) (.int .i64 0) (.slice none 0 0) (.slice none 0 0) (.slice none 0 0)
      rw [← hwz] at hqz hfz
      unfold st11 at hwz
      have HWZ := hid hwz
      have HQZ := hid hqz
      have HFZ := hid hfz
      have HBZ := hid (show Below w.heap.size w wz from ((Fr.of_below (S := NoB) HB2.out).trans hfz (fun x hx => .inr (by have h3 : x = w.heap.size + 1 := hx; omega))).no)
      clear hwz hqz hfz
      have z0 : w2.cell? ⟨w.heap.size + 1, 0, none⟩ = some (.int .i64 0) := blk_cell HQ62.out 0
      have z1 : w2.cell? ⟨w.heap.size + 1, 1, none⟩ = some (.int .i64 0) := blk_cell HQ62.out 1
      have z2 : w2.cell? ⟨w.heap.size + 1, 2, none⟩ = some (.int .i64 0) := blk_cell HQ62.out 2
      have z3 : w2.cell? ⟨w.heap.size + 1, 3, none⟩ = some (.int .i64 0) := blk_cell HQ62.out 3
      have z4 : w2.cell? ⟨w.heap.size + 1, 4, none⟩ = some (.int .i64 0) := blk_cell HQ62.out 4
      have z5 : w2.cell? ⟨w.heap.size + 1, 5, none⟩ = some (.int .i64 0) := blk_cell HQ62.out 5
      have z6 : w2.cell? ⟨w.heap.size + 1, 6, none⟩ = some (.int .i64 0) := blk_cell HQ62.out 6
      have z7 : w2.cell? ⟨w.heap.size + 1, 7, none⟩ = some (.int .i64 0) := blk_cell HQ62.out 7
      have z8 : w2.cell? ⟨w.heap.size + 1, 8, none⟩ = some (.slice none 0 0) := blk_cell HQ62.out 8
      have z9 : w2.cell? ⟨w.heap.size + 1, 9, none⟩ = some (.slice none 0 0) := blk_cell HQ62.out 9
      have z10 : w2.cell? ⟨w.heap.size + 1, 10, none⟩ = some (.slice none 0 0) := blk_cell HQ62.out 10
      have zf : ∀ k, w2.frozen? ⟨w.heap.size + 1, k, none⟩ = false := fun k => blk_free HQ62.out k
      go_wp2_with fail
      rw [← HWZ.out]
      clear z0 z1 z2 z3 z4 z5 z6 z7 z8 z9 z10 zf
      have y0 : wz.cell? ⟨w.heap.size + 1, 0, none⟩ = some (.int .i64 0) := blk_cell HQZ.out 0
      have y1 : wz.cell? ⟨w.heap.size + 1, 1, none⟩ = some (.int .i64 0) := blk_cell HQZ.out 1
      have y2 : wz.cell? ⟨w.heap.size + 1, 2, none⟩ = some (.int .i64 0) := blk_cell HQZ.out 2
      have y3 : wz.cell? ⟨w.heap.size + 1, 3, none⟩ = some (.int .i64 0) := blk_cell HQZ.out 3
      have y4 : wz.cell? ⟨w.heap.size + 1, 4, none⟩ = some (.int .i64 0) := blk_cell HQZ.out 4
      have y5 : wz.cell? ⟨w.heap.size + 1, 5, none⟩ = some (.int .i64 0) := blk_cell HQZ.out 5
      have y6 : wz.cell? ⟨w.heap.size + 1, 6, none⟩ = some (.int .i64 0) := blk_cell HQZ.out 6
      have y7 : wz.cell? ⟨w.heap.size + 1, 7, none⟩ = some (.int .i64 0) := blk_cell HQZ.out 7
      have y8 : wz.cell? ⟨w.heap.size + 1, 8, none⟩ = some (.slice none 0 0) := blk_cell HQZ.out 8
      have y9 : wz.cell? ⟨w.heap.size + 1, 9, none⟩ = some (.slice none 0 0) := blk_cell HQZ.out 9
      have y10 : wz.cell? ⟨w.heap.size + 1, 10, none⟩ = some (.slice none 0 0) := blk_cell HQZ.out 10
      exact bodyPost_ret (v := .tuple #[tab0, .bool false]) (by simp [results, Try.results73, go_sem, tab0, tabV, tabC, y0, y1, y2, y3, y4, y5, y6, y7, y8, y9, y10]) rfl (.inl ⟨HF.out, rfl, HBZ.out⟩)

    case pos =>
      subst hnn
      have hne : ((n2 : Int) != (n2 : Int)) = false := by simp
      have hlp : L.length = P.length := by rw [← HN2.out, ← HN.out]
      have HLP := hid hlp
      obtain ⟨vs, hog⟩ := HRW.out rfl
      have HOG := hid hog
      have hrw := hog.plan
      obtain ⟨Ag, cg, hur, _⟩ := hrw.shape
      rw [show (rankL S P).length = n2 by unfold rankL; rw [List.length_mapIdx, HN.out]] at hur
      subst hur
      have HRK := hid hrw
      clear hlp hrw hog
      have s0 : w2.cell? ⟨w.heap.size, 0, none⟩ = some (.int .i64 S.cores) := blk_cell HQ02.out 0
      have s1 : w2.cell? ⟨w.heap.size, 1, none⟩ = some (.int .i64 S.policy) := blk_cell HQ02.out 1
      have s2 : w2.cell? ⟨w.heap.size, 2, none⟩ = some (.int .i64 S.prot) := blk_cell HQ02.out 2
      have s3 : w2.cell? ⟨w.heap.size, 3, none⟩ = some (.int .i64 S.rel) := blk_cell HQ02.out 3
      have s4 : w2.cell? ⟨w.heap.size, 4, none⟩ = some (.int .i64 S.sw) := blk_cell HQ02.out 4
      have s5 : w2.cell? ⟨w.heap.size, 5, none⟩ = some (.int .i64 S.fin) := blk_cell HQ02.out 5
      have s6 : w2.cell? ⟨w.heap.size, 6, none⟩ = some (.int .i64 S.lat) := blk_cell HQ02.out 6
      have s7 : w2.cell? ⟨w.heap.size, 7, none⟩ = some (.int .i64 S.resn) := blk_cell HQ02.out 7
      have s8 : w2.cell? ⟨w.heap.size, 8, none⟩ = some (.slice A0 n0 c0) := blk_cell HQ02.out 8
      go_wp2_with fail
      refine (HCA.out _ HB2.out).mono ?_
      rintro e w3 ⟨uc, rfl, hcc, hb3⟩
      obtain ⟨vc, hoi⟩ := hcc HRB.out
      have HOI := hid hoi
      clear hcc
      have hcc := hoi.plan
      clear hoi
      obtain ⟨Ac, dc, huc, _⟩ := hcc.shape
      obtain ⟨cn, hcn⟩ : ∃ cn, (ceilL S P).length = cn := ⟨_, rfl⟩
      rw [hcn] at huc
      subst huc
      have HCC := hid hcc
      have HB3 := hid (below_then HB2.out hb3)
      have HW3S := hid hb3.size
      have HOG3 := hid (HOG.out.later hb3)
      have HVL := hid (show vs.length = n2 from by rw [HOG.out.len]; unfold rankL; rw [List.length_mapIdx, HN.out])
      have HQ63 := hid ((fr0 hb3).blk HQ62.out (fun h => h))
      have hq03 := (fr0 hb3).blk HQ02.out (fun h => h)
      clear hcc hb3 hcn s0 s1 s2 s3 s4 s5 s6 s7 s8
      have s0 : w3.cell? ⟨w.heap.size, 0, none⟩ = some (.int .i64 S.cores) := blk_cell hq03 0
      have s1 : w3.cell? ⟨w.heap.size, 1, none⟩ = some (.int .i64 S.policy) := blk_cell hq03 1
      have s2 : w3.cell? ⟨w.heap.size, 2, none⟩ = some (.int .i64 S.prot) := blk_cell hq03 2
      have s3 : w3.cell? ⟨w.heap.size, 3, none⟩ = some (.int .i64 S.rel) := blk_cell hq03 3
      have s4 : w3.cell? ⟨w.heap.size, 4, none⟩ = some (.int .i64 S.sw) := blk_cell hq03 4
      have s5 : w3.cell? ⟨w.heap.size, 5, none⟩ = some (.int .i64 S.fin) := blk_cell hq03 5
      have s6 : w3.cell? ⟨w.heap.size, 6, none⟩ = some (.int .i64 S.lat) := blk_cell hq03 6
      have s7 : w3.cell? ⟨w.heap.size, 7, none⟩ = some (.int .i64 S.resn) := blk_cell hq03 7
      have s8 : w3.cell? ⟨w.heap.size, 8, none⟩ = some (.slice A0 n0 c0) := blk_cell hq03 8
      go_upto_region 6 with fail
      clear s0 s1 s2 s3 s4 s5 s6 s7 s8 hq03 hne
      have hqt := blk_new w3 (.cells (tabC S (.slice A0 n0 c0) (.slice none 0 0) (.slice Ac cn dc)) 28)
      have hbt := below_new (Below.refl w3.heap.size w3) (.cells (tabC S (.slice A0 n0 c0) (.slice none 0 0) (.slice Ac cn dc)) 28)
      have hst : (w3.alloc (.cells (tabC S (.slice A0 n0 c0) (.slice none 0 0) (.slice Ac cn dc)) 28)).heap.size = w3.heap.size + 1 := by simp
      unfold tabC at hqt hbt hst
      obtain ⟨Z, hZ⟩ : ∃ Z, w3.heap.size = Z := ⟨_, rfl⟩
      have HZ := hid hZ
      rw [hZ] at hqt hbt hst ⊢
      generalize w3.alloc (.cells #[.int .i64 S.cores, .int .i64 S.policy, .int .i64 S.prot, .int .i64 S.rel, .int .i64 S.sw, .int .i64 S.fin, .int .i64 S.lat, .int .i64 S.resn, .slice A0 n0 c0, .slice none 0 0, .slice Ac cn dc] 28) = w4 at hqt hbt hst ⊢
      have HQT := hid hqt
      have HBT := hid hbt
      have HSZ := hid (show Z + 1 ≤ w4.heap.size by omega)
      clear hqt hbt hst hZ
      go_wp2_with fail
      obtain ⟨T, hT⟩ : ∃ T, mkT S P L = T := ⟨_, rfl⟩
      have HT := hid hT
      have HTE := hid (show ∀ (i : Nat) q b, (rankL S P)[i]? = some q → L[i]? = some b → T.ents[i]? = some ⟨q, b⟩ from fun i q b h1 h2 => by
        rw [← hT]
        unfold mkT
        simp only
        rw [List.getElem?_map, (List.getElem?_zip_eq_some (z := (q, b))).2 ⟨h1, h2⟩]
        rfl)
      have HTL := hid (show T.ents.length = n2 from by
        rw [← hT]
        unfold mkT rankL
        simp only
        rw [List.length_map, List.length_zip, List.length_mapIdx, HLP.out, Nat.min_self, HN.out])
      clear hT
      go_loopw [13] (fun v wr => ∃ (k : Nat) (u : Value) (xs : List (Value × Int)), k ≤ n2 ∧ v = .int .i64 k ∧ Hid (EG w3 wr (Z + 1) u xs (T.ents.take k)) ∧ Hid (xs.map Prod.fst = vs.take k) ∧ Hid (wr.heap[Z]? = some (.cells (tabC S (.slice A0 n0 c0) u (.slice Ac cn dc)) 28 (0, 0))) ∧ Hid (Below Z w3 wr) ∧ Hid (Z + 1 ≤ wr.heap.size)) (fun v _ => n2 - (intOf v).toNat)
      case atStart => exact ⟨0, _, [], by omega, rfl, hid (EG.nil _ _ _), hid rfl, HQT, HBT, HSZ⟩
      case round =>
        obtain ⟨k, u, xs, hk, rfl, HE, HXM, HQ, HB, HS2⟩ := hrel
        by_cases hlt : k < n2
        case pos =>
          obtain ⟨q, hq⟩ : ∃ q, (rankL S P)[k]? = some q := ⟨_, List.getElem?_eq_getElem (by unfold rankL; rw [List.length_mapIdx, ← HN.out]; exact hlt)⟩
          obtain ⟨bd, hbd⟩ : ∃ b, L[k]? = some b := ⟨_, List.getElem?_eq_getElem (by rw [← HN2.out]; exact hlt)⟩
          obtain ⟨v7, hv7⟩ : ∃ v, vs[k]? = some v := ⟨_, List.getElem?_eq_getElem (by rw [HVL.out]; exact hlt)⟩
          have how := HOG3.out.rows k v7 q hv7 hq
          obtain ⟨m7, hm7⟩ : ∃ m, q.length = m := ⟨_, rfl⟩
          rw [hm7] at how
          obtain ⟨A7, c7, rfl⟩ := own_slice how
          have hru5 : Rowp 5 pcR w3 (.slice A7 m7 c7) q := Rowp.of_own encPc_len how hm7.symm (by decide) (fun p _ => rfl)
          obtain ⟨gu, cap', cur, hvu, _, hgu, _⟩ := own_shape HOG3.out.out (by rw [HVL.out]; omega)
          injection hvu with hvu hvn hvc
          clear hvn hvc
          subst hvu
          have hbl5 : gu < w3.heap.size := blk_lt hgu
          have hc5 : w3.cell? ⟨gu, k, none⟩ = some (.slice A7 m7 c7) := by
            have h1 := HOG3.out.out
            rw [HVL.out] at h1
            exact own_cell0 h1 hv7
          have HV7 := hid hv7
          obtain ⟨b6, o6, cs6, hA6, hbl6, _, hc6, hr6⟩ := (HL.out.later IntR.stays HB3.out).at hbd
          subst hA6
          have hr6' : cs6 = [.int .i64 bd] := hr6
          subst hr6'
          have HTK := hid (HTE.out k q bd hq hbd)
          have HRU := hid hru5
          have hbz := HZ.out
          have HBZ3 : Below w3.heap.size w3 wr := by rw [hbz]; exact HB.out
          have e0 : wr.cell? ⟨gu, k, none⟩ = some (.slice A7 m7 c7) := (HBZ3.cell (p := ⟨gu, k, none⟩) hbl5).trans hc5
          have e1 : wr.cell? ⟨b6, o6 + k, none⟩ = some (.int .i64 bd) := (HBZ3.cell (p := ⟨b6, o6 + k, none⟩) hbl6).trans (by simpa using hc6 0 _ rfl)
          have e0d : wr.drew.cell? ⟨gu, k, none⟩ = some (.slice A7 m7 c7) := e0
          have e1d : wr.drew.cell? ⟨b6, o6 + k, none⟩ = some (.int .i64 bd) := e1
          have hown := HE.out.out
          have hxl : xs.length = k := by have h1 := HE.out.len; rw [List.length_take, HTL.out] at h1; omega
          rw [hxl] at hown
          obtain ⟨Au, cu, rfl⟩ := own_slice hown
          have t9 : wr.cell? ⟨Z, 9, none⟩ = some (.slice Au k cu) := blk_cell HQ.out 9
          have t9d : wr.drew.cell? ⟨Z, 9, none⟩ = some (.slice Au k cu) := t9
          have HOWN := hid (show wr.drew.ownsRow (Z + 1) 95 2 (.slice Au k cu) k (flat encE xs) from hown)
          have HXL := hid hxl
          have hsz := HS2.out
          have hZl : Z < wr.heap.size := by omega
          have hb5l : gu < wr.heap.size := Nat.lt_of_lt_of_le hbl5 HBZ3.size
          have hb6l : b6 < wr.heap.size := Nat.lt_of_lt_of_le hbl6 HBZ3.size
          clear hq hbd hc5 hru5 hm7 hc6 hr6 hbl5 hbl6 hown hxl hbz HBZ3 hv7 how hgu
          go_upto_region 9 with fail
          go_region_law (first
            | (refine step_append_new (W := wr.drew) rfl (.tmp 47) (.tmp 57) 25 rfl (Z + 1) 95 i0 _ 2 32 Try.underlying25 hi hz0 hz1 hz2 rfl (by decide) #[.slice A7 m7 c7, .int .i64 bd] (.slice Au k cu) k (flat encE xs) (by simp [Act.eval, Act.put]) wr.heap.size (by simp [Act.eval, Act.put]) rfl HOWN.out rfl (fun u hu => by simp at hu; rcases hu with rfl | rfl <;> rfl) (by unfold maxLen; omega) (by omega) hsz ?_
               intro v' w5 ho hf hv
               obtain ⟨A', c', rfl⟩ := own_slice ho
               have HO5 := hid ho
               have HF5 := hid hf
               have HV5 := hid hv
               have hq5 := hf.blk (show wr.drew.heap[Z]? = some (.cells (tabC S (.slice A0 n0 c0) (.slice Au k cu) (.slice Ac cn dc)) 28 (0, 0)) from HQ.out) (fun h => by have := (HOWN.out.lt _ h).1; omega)
               have HQ5 := hid hq5
               have g9 : w5.cell? ⟨Z, 9, none⟩ = some (.slice Au k cu) := blk_cell hq5 9
               have f9 : w5.frozen? ⟨Z, 9, none⟩ = false := blk_free hq5 9
               clear ho hf hv hq5))
          all_goals
            have HEN := hid (show EG w3 (w5.setCell ⟨Z, 9, none⟩ (.slice A' (k + 1) c')) (Z + 1) (.slice A' (k + 1) c') (xs ++ [(.slice A7 m7 c7, bd)]) (T.ents.take (k + 1)) from by
              rw [take_next HTK.out]
              have h1 := HE.out.snoc (w' := w5.setCell ⟨Z, 9, none⟩ (.slice A' (k + 1) c')) (u' := .slice A' (k + 1) c') (x := (.slice A7 m7 c7, bd)) (e := ⟨q, bd⟩) ⟨rfl, HRU.out⟩ (by
                rw [HXL.out]
                exact own_set_ne HO5.out (fun b hb e => by subst e; have := (HO5.out.lt _ hb).1; omega) 9 _)
              exact h1)
            have HXN := hid (show (xs ++ [(Value.slice A7 m7 c7, bd)]).map Prod.fst = vs.take (k + 1) from by rw [take_next HV7.out, List.map_append, HXM.out]; rfl)
            have HQN := hid (show (w5.setCell ⟨Z, 9, none⟩ (.slice A' (k + 1) c')).heap[Z]? = some (.cells (tabC S (.slice A0 n0 c0) (.slice A' (k + 1) c') (.slice Ac cn dc)) 28 (0, 0)) from blk_set HQ5.out 9 _)
            have HFN := hid (((HF5.out.mono (S' := fun b => Z ≤ b) (fun x hx => .inl (by have := (HOWN.out.lt x hx).1; omega))).trans ((Fr.refl (One Z) w5).one 9 (.slice A' (k + 1) c')) (fun x hx => .inl (by cases hx; exact Nat.le_refl _))))
            have HBN := hid (show Below Z w3 (w5.setCell ⟨Z, 9, none⟩ (.slice A' (k + 1) c')) from by
              have h0 : Below w3.heap.size w3 wr.drew := below_drewN' (show Below w3.heap.size w3 wr from by rw [HZ.out]; exact HB.out) 1
              have h1 := ((Fr.of_below (S := NoB) h0).trans HFN.out (fun x hx => .inr (by rw [HZ.out]; exact hx))).no
              rw [HZ.out] at h1
              exact h1)
            have HSN := hid (Nat.le_trans HS2.out HFN.out.size)
            clear e0 e1 e0d e1d t9 t9d g9 f9 hsz
            generalize w5.setCell ⟨Z, 9, none⟩ (.slice A' (k + 1) c') = w6 at HEN HQN HBN HSN ⊢
            go_wp2_with fail
            go_roundw
            case rel => exact ⟨k + 1, .slice A' (k + 1) c', xs ++ [(.slice A7 m7 c7, bd)], by omega, by go_num, HEN, HXN, HQN, HBN, HSN⟩
            case measure => simp [intOf]; omega
        case neg =>
          obtain rfl : k = n2 := by omega
          have HBZ3 := hid (show Below w3.heap.size w3 wr from by rw [HZ.out]; exact HB.out)
          have HBW := hid (below_then HB3.out HBZ3.out)
          have htk : T.ents.take k = T.ents := List.take_of_length_le (by rw [HTL.out]; exact Nat.le_refl _)
          have HE2 := hid (show EG w3 wr (Z + 1) u xs T.ents from by rw [← htk]; exact HE.out)
          have hown := HE2.out.out
          have hxl : xs.length = k := by rw [HE2.out.len, HTL.out]
          rw [hxl] at hown
          obtain ⟨Au, cu, rfl⟩ := own_slice hown
          have HIT := hid (show IsTab wr (.slice A0 n0 c0) (.slice Au k cu) (.slice Ac cn dc) T from by
            rw [← HT.out]
            have hpl : (partsOf P).length < 1000000 := by
              have h3 : ∀ l ∈ P, l.length ≤ 8 := fun l hl => by
                obtain ⟨i, hi⟩ := List.mem_iff_getElem?.1 hl
                have hi2 := (List.getElem?_eq_some_iff.1 hi).1
                have h1 := HOK.out.len
                have ht : S.tasks[i]? = some (S.tasks[i]'(by omega)) := List.getElem?_eq_getElem _
                exact (listOk_pcs HOK.out.sys (HOK.out.sys.tasks _ (List.mem_of_getElem? ht)) (HOK.out.lists i _ l ht hi)).1
              have h4 := parts_len_le h3
              have := HN.out
              omega
            refine ⟨HS.out.later HBW.out, ?_, fun e he p hp => ?_, fun e he => ?_, HCC.out.later (RowR.stays IntR.stays) HBZ3.out⟩
            · have h1 := HE2.out.tab HBZ3.out
              rw [← HT.out] at h1
              exact h1
            · unfold mkT at he
              obtain ⟨x, hx, rfl⟩ := List.mem_map.1 he
              obtain ⟨i, hi⟩ := List.mem_iff_getElem?.1 hx
              rw [List.getElem?_zip_eq_some] at hi
              exact rankRow_wf HP.out.wf hpl _ (List.mem_of_getElem? hi.1) p hp
            · unfold mkT at he
              obtain ⟨x, hx, rfl⟩ := List.mem_map.1 he
              obtain ⟨i, hi⟩ := List.mem_iff_getElem?.1 hx
              rw [List.getElem?_zip_eq_some] at hi
              exact HLW.out _ (List.mem_of_getElem? hi.2))
          have HSE := hid (show T.sys = S from by rw [← HT.out]; rfl)
          have HRI := hid (rright19_any (w := wr) T A0 n0 c0 Au k cu Ac cn dc HIT.out (by omega))
          rw [HSE.out] at HRI
          unfold tabV tabC at HRI
          have HQL := hid HQ.out
          have HQ6L := hid ((fr0 HBZ3.out).blk HQ63.out (fun h => h))
          clear htk hown hxl
          have t0 : wr.cell? ⟨Z, 0, none⟩ = some (.int .i64 S.cores) := blk_cell HQL.out 0
          have t1 : wr.cell? ⟨Z, 1, none⟩ = some (.int .i64 S.policy) := blk_cell HQL.out 1
          have t2 : wr.cell? ⟨Z, 2, none⟩ = some (.int .i64 S.prot) := blk_cell HQL.out 2
          have t3 : wr.cell? ⟨Z, 3, none⟩ = some (.int .i64 S.rel) := blk_cell HQL.out 3
          have t4 : wr.cell? ⟨Z, 4, none⟩ = some (.int .i64 S.sw) := blk_cell HQL.out 4
          have t5 : wr.cell? ⟨Z, 5, none⟩ = some (.int .i64 S.fin) := blk_cell HQL.out 5
          have t6 : wr.cell? ⟨Z, 6, none⟩ = some (.int .i64 S.lat) := blk_cell HQL.out 6
          have t7 : wr.cell? ⟨Z, 7, none⟩ = some (.int .i64 S.resn) := blk_cell HQL.out 7
          have t8 : wr.cell? ⟨Z, 8, none⟩ = some (.slice A0 n0 c0) := blk_cell HQL.out 8
          have t9 : wr.cell? ⟨Z, 9, none⟩ = some (.slice Au k cu) := blk_cell HQL.out 9
          have t10 : wr.cell? ⟨Z, 10, none⟩ = some (.slice Ac cn dc) := blk_cell HQL.out 10
          go_wp2_with fail
          refine HRI.out.mono ?_
          rintro e w7 ⟨rfl, hb7⟩
          have HB7 := hid (below_then HBW.out hb7)
          have HB77 := hid hb7
          have HQ67 := hid ((fr0 hb7).blk HQ6L.out (fun h => h))
          have HQ7 := hid ((fr0 hb7).blk HQL.out (fun h => h))
          have HIT7 := hid (HIT.out.later hb7)
          obtain ⟨tb, htb⟩ : ∃ b, tabB T = b := ⟨_, rfl⟩
          rw [htb]
          have HTB := hid htb
          clear t0 t1 t2 t3 t4 t5 t6 t7 t8 t9 t10 hb7 htb HRI
          cases tb
          case false =>
            have HF := hid (show makeB S P L = false from by unfold makeB; rw [HRB.out, HT.out, HTB.out, Bool.and_false, Bool.and_false])
            obtain ⟨wz, hwz⟩ : ∃ wz, wz = st11 w7 (w.heap.size + 1) (.int .i64 0) (.int .i64 0) (.int .i64 0) (.int .i64 0) (.int .i64 0) (.int .i64 0) (.int .i64 0) (.int .i64 0) (.slice none 0 0) (.slice none 0 0) (.slice none 0 0) := ⟨_, rfl⟩
            have hqz := blk_st11 (v0 := .int .i64 0) (v1 := .int .i64 0) (v2 := .int .i64 0) (v3 := .int .i64 0) (v4 := .int .i64 0) (v5 := .int .i64 0) (v6 := .int .i64 0) (v7 := .int .i64 0) (v8 := .slice none 0 0) (v9 := .slice none 0 0) (v10 := .slice none 0 0) HQ67.out
            have hfz := fr_st11 (Fr.refl (One (w.heap.size + 1)) w7) (.int .i64 0) (.int .i64 0) (.int .i64 0) (.int .i64 0) (.int .i64 0) (.int .i64 0) (.int .i64 0) (.int .i64 0) (.slice none 0 0) (.slice none 0 0) (.slice none 0 0)
            rw [← hwz] at hqz hfz
            unfold st11 at hwz
            have HWZ := hid hwz
            have HQZ := hid hqz
            have HFZ := hid hfz
            have HBZ := hid (show Below w.heap.size w wz from ((Fr.of_below (S := NoB) HB7.out).trans hfz (fun x hx => .inr (by have h3 : x = w.heap.size + 1 := hx; omega))).no)
            clear hwz hqz hfz
            have z0 : w7.cell? ⟨w.heap.size + 1, 0, none⟩ = some (.int .i64 0) := blk_cell HQ67.out 0
            have z1 : w7.cell? ⟨w.heap.size + 1, 1, none⟩ = some (.int .i64 0) := blk_cell HQ67.out 1
            have z2 : w7.cell? ⟨w.heap.size + 1, 2, none⟩ = some (.int .i64 0) := blk_cell HQ67.out 2
            have z3 : w7.cell? ⟨w.heap.size + 1, 3, none⟩ = some (.int .i64 0) := blk_cell HQ67.out 3
            have z4 : w7.cell? ⟨w.heap.size + 1, 4, none⟩ = some (.int .i64 0) := blk_cell HQ67.out 4
            have z5 : w7.cell? ⟨w.heap.size + 1, 5, none⟩ = some (.int .i64 0) := blk_cell HQ67.out 5
            have z6 : w7.cell? ⟨w.heap.size + 1, 6, none⟩ = some (.int .i64 0) := blk_cell HQ67.out 6
            have z7 : w7.cell? ⟨w.heap.size + 1, 7, none⟩ = some (.int .i64 0) := blk_cell HQ67.out 7
            have z8 : w7.cell? ⟨w.heap.size + 1, 8, none⟩ = some (.slice none 0 0) := blk_cell HQ67.out 8
            have z9 : w7.cell? ⟨w.heap.size + 1, 9, none⟩ = some (.slice none 0 0) := blk_cell HQ67.out 9
            have z10 : w7.cell? ⟨w.heap.size + 1, 10, none⟩ = some (.slice none 0 0) := blk_cell HQ67.out 10
            have zf : ∀ k, w7.frozen? ⟨w.heap.size + 1, k, none⟩ = false := fun k => blk_free HQ67.out k
            go_wp2_with fail
            rw [← HWZ.out]
            clear z0 z1 z2 z3 z4 z5 z6 z7 z8 z9 z10 zf
            have y0 : wz.cell? ⟨w.heap.size + 1, 0, none⟩ = some (.int .i64 0) := blk_cell HQZ.out 0
            have y1 : wz.cell? ⟨w.heap.size + 1, 1, none⟩ = some (.int .i64 0) := blk_cell HQZ.out 1
            have y2 : wz.cell? ⟨w.heap.size + 1, 2, none⟩ = some (.int .i64 0) := blk_cell HQZ.out 2
            have y3 : wz.cell? ⟨w.heap.size + 1, 3, none⟩ = some (.int .i64 0) := blk_cell HQZ.out 3
            have y4 : wz.cell? ⟨w.heap.size + 1, 4, none⟩ = some (.int .i64 0) := blk_cell HQZ.out 4
            have y5 : wz.cell? ⟨w.heap.size + 1, 5, none⟩ = some (.int .i64 0) := blk_cell HQZ.out 5
            have y6 : wz.cell? ⟨w.heap.size + 1, 6, none⟩ = some (.int .i64 0) := blk_cell HQZ.out 6
            have y7 : wz.cell? ⟨w.heap.size + 1, 7, none⟩ = some (.int .i64 0) := blk_cell HQZ.out 7
            have y8 : wz.cell? ⟨w.heap.size + 1, 8, none⟩ = some (.slice none 0 0) := blk_cell HQZ.out 8
            have y9 : wz.cell? ⟨w.heap.size + 1, 9, none⟩ = some (.slice none 0 0) := blk_cell HQZ.out 9
            have y10 : wz.cell? ⟨w.heap.size + 1, 10, none⟩ = some (.slice none 0 0) := blk_cell HQZ.out 10
            exact bodyPost_ret (v := .tuple #[tab0, .bool false]) (by simp [results, Try.results73, go_sem, tab0, tabV, tabC, y0, y1, y2, y3, y4, y5, y6, y7, y8, y9, y10]) rfl (.inl ⟨HF.out, rfl, HBZ.out⟩)

          case true =>
            have t0 : w7.cell? ⟨Z, 0, none⟩ = some (.int .i64 S.cores) := blk_cell HQ7.out 0
            have t1 : w7.cell? ⟨Z, 1, none⟩ = some (.int .i64 S.policy) := blk_cell HQ7.out 1
            have t2 : w7.cell? ⟨Z, 2, none⟩ = some (.int .i64 S.prot) := blk_cell HQ7.out 2
            have t3 : w7.cell? ⟨Z, 3, none⟩ = some (.int .i64 S.rel) := blk_cell HQ7.out 3
            have t4 : w7.cell? ⟨Z, 4, none⟩ = some (.int .i64 S.sw) := blk_cell HQ7.out 4
            have t5 : w7.cell? ⟨Z, 5, none⟩ = some (.int .i64 S.fin) := blk_cell HQ7.out 5
            have t6 : w7.cell? ⟨Z, 6, none⟩ = some (.int .i64 S.lat) := blk_cell HQ7.out 6
            have t7 : w7.cell? ⟨Z, 7, none⟩ = some (.int .i64 S.resn) := blk_cell HQ7.out 7
            have t8 : w7.cell? ⟨Z, 8, none⟩ = some (.slice A0 n0 c0) := blk_cell HQ7.out 8
            have t9 : w7.cell? ⟨Z, 9, none⟩ = some (.slice Au k cu) := blk_cell HQ7.out 9
            have t10 : w7.cell? ⟨Z, 10, none⟩ = some (.slice Ac cn dc) := blk_cell HQ7.out 10
            obtain ⟨wz, hwz⟩ : ∃ wz, wz = st11 w7 (w.heap.size + 1) (.int .i64 S.cores) (.int .i64 S.policy) (.int .i64 S.prot) (.int .i64 S.rel) (.int .i64 S.sw) (.int .i64 S.fin) (.int .i64 S.lat) (.int .i64 S.resn) (.slice A0 n0 c0) (.slice Au k cu) (.slice Ac cn dc) := ⟨_, rfl⟩
            have hqz := blk_st11 (v0 := .int .i64 S.cores) (v1 := .int .i64 S.policy) (v2 := .int .i64 S.prot) (v3 := .int .i64 S.rel) (v4 := .int .i64 S.sw) (v5 := .int .i64 S.fin) (v6 := .int .i64 S.lat) (v7 := .int .i64 S.resn) (v8 := .slice A0 n0 c0) (v9 := .slice Au k cu) (v10 := .slice Ac cn dc) HQ67.out
            have hfz := fr_st11 (Fr.refl (One (w.heap.size + 1)) w7) (.int .i64 S.cores) (.int .i64 S.policy) (.int .i64 S.prot) (.int .i64 S.rel) (.int .i64 S.sw) (.int .i64 S.fin) (.int .i64 S.lat) (.int .i64 S.resn) (.slice A0 n0 c0) (.slice Au k cu) (.slice Ac cn dc)
            rw [← hwz] at hqz hfz
            unfold st11 at hwz
            have HWZ := hid hwz
            have HQZ := hid hqz
            have HFZ := hid hfz
            have HBZ := hid (show Below w.heap.size w wz from ((Fr.of_below (S := NoB) HB7.out).trans hfz (fun x hx => .inr (by have h3 : x = w.heap.size + 1 := hx; omega))).no)
            clear hwz hqz hfz
            have z0 : w7.cell? ⟨w.heap.size + 1, 0, none⟩ = some (.int .i64 0) := blk_cell HQ67.out 0
            have z1 : w7.cell? ⟨w.heap.size + 1, 1, none⟩ = some (.int .i64 0) := blk_cell HQ67.out 1
            have z2 : w7.cell? ⟨w.heap.size + 1, 2, none⟩ = some (.int .i64 0) := blk_cell HQ67.out 2
            have z3 : w7.cell? ⟨w.heap.size + 1, 3, none⟩ = some (.int .i64 0) := blk_cell HQ67.out 3
            have z4 : w7.cell? ⟨w.heap.size + 1, 4, none⟩ = some (.int .i64 0) := blk_cell HQ67.out 4
            have z5 : w7.cell? ⟨w.heap.size + 1, 5, none⟩ = some (.int .i64 0) := blk_cell HQ67.out 5
            have z6 : w7.cell? ⟨w.heap.size + 1, 6, none⟩ = some (.int .i64 0) := blk_cell HQ67.out 6
            have z7 : w7.cell? ⟨w.heap.size + 1, 7, none⟩ = some (.int .i64 0) := blk_cell HQ67.out 7
            have z8 : w7.cell? ⟨w.heap.size + 1, 8, none⟩ = some (.slice none 0 0) := blk_cell HQ67.out 8
            have z9 : w7.cell? ⟨w.heap.size + 1, 9, none⟩ = some (.slice none 0 0) := blk_cell HQ67.out 9
            have z10 : w7.cell? ⟨w.heap.size + 1, 10, none⟩ = some (.slice none 0 0) := blk_cell HQ67.out 10
            have zf : ∀ k, w7.frozen? ⟨w.heap.size + 1, k, none⟩ = false := fun k => blk_free HQ67.out k
            go_wp2_with fail
            rw [← HWZ.out]
            clear z0 z1 z2 z3 z4 z5 z6 z7 z8 z9 z10 zf
            have y0 : wz.cell? ⟨w.heap.size + 1, 0, none⟩ = some (.int .i64 S.cores) := blk_cell HQZ.out 0
            have y1 : wz.cell? ⟨w.heap.size + 1, 1, none⟩ = some (.int .i64 S.policy) := blk_cell HQZ.out 1
            have y2 : wz.cell? ⟨w.heap.size + 1, 2, none⟩ = some (.int .i64 S.prot) := blk_cell HQZ.out 2
            have y3 : wz.cell? ⟨w.heap.size + 1, 3, none⟩ = some (.int .i64 S.rel) := blk_cell HQZ.out 3
            have y4 : wz.cell? ⟨w.heap.size + 1, 4, none⟩ = some (.int .i64 S.sw) := blk_cell HQZ.out 4
            have y5 : wz.cell? ⟨w.heap.size + 1, 5, none⟩ = some (.int .i64 S.fin) := blk_cell HQZ.out 5
            have y6 : wz.cell? ⟨w.heap.size + 1, 6, none⟩ = some (.int .i64 S.lat) := blk_cell HQZ.out 6
            have y7 : wz.cell? ⟨w.heap.size + 1, 7, none⟩ = some (.int .i64 S.resn) := blk_cell HQZ.out 7
            have y8 : wz.cell? ⟨w.heap.size + 1, 8, none⟩ = some (.slice A0 n0 c0) := blk_cell HQZ.out 8
            have y9 : wz.cell? ⟨w.heap.size + 1, 9, none⟩ = some (.slice Au k cu) := blk_cell HQZ.out 9
            have y10 : wz.cell? ⟨w.heap.size + 1, 10, none⟩ = some (.slice Ac cn dc) := blk_cell HQZ.out 10
            have HMB := hid (show makeB S P L = true from by unfold makeB; rw [HRB.out, HT.out, HTB.out, decide_eq_true HLP.out]; rfl)
            have HITZ := hid (show IsTab wz (.slice A0 n0 c0) (.slice Au k cu) (.slice Ac cn dc) (mkT S P L) from by
              rw [HT.out]
              have h6 : ∀ b, (Z + 1 ≤ b ∨ w.heap.size + 2 ≤ b) → ¬ One (w.heap.size + 1) b := fun b hb e => by have h3 : b = w.heap.size + 1 := e; have h4 := HW3S.out; have h41 := HW2S.out; have h5 := HZ.out; have h7 := HW1S.out; omega
              have hog := (((HOG3.out.later HBZ3.out).later HB77.out).kept HFZ.out (fun j hj => h6 j (.inr (by have h8 := ((HOG3.out.later HBZ3.out).lt j hj).1; have h9 := HW1S.out; omega))))
              have hoi := (((HOI.out.later HBZ3.out).later HB77.out).kept HFZ.out (fun j hj => h6 j (.inr (by have h8 := ((HOI.out.later HBZ3.out).lt j hj).1; have h9 := HW1S.out; have h10 := HW2S.out; omega))))
              have heg := own_kept (own_kept HE2.out.out (fr0 HB77.out) (fun _ _ h => h)) HFZ.out (fun j hj => h6 j (.inl (HE2.out.out.lt j hj).1))
              refine ⟨(by rw [HSE.out]; exact HS.out.later HBZ.out), ?_, HIT.out.wf, HIT.out.bwf, (by have h1 := hoi.plan; rw [← HT.out]; exact h1)⟩
              refine EG.tab (w0 := wz) (base := Z + 1) (xs := xs) ⟨(by rw [show xs.length = k by rw [HE2.out.len, HTL.out]] at heg ⊢; exact heg), HE2.out.len, fun i x e hx he => ?_⟩ (Below.refl _ _)
              obtain ⟨hb2, _⟩ := HE2.out.rows i x e hx he
              refine ⟨hb2, ?_⟩
              have hvi : vs[i]? = some x.1 := by
                have hil := (List.getElem?_eq_some_iff.1 hx).1
                have h1 := congrArg (fun l => l[i]?) HXM.out
                simp only [List.getElem?_map, hx, Option.map_some] at h1
                rw [List.getElem?_take_of_lt (by rw [HE2.out.len, HTL.out] at hil; exact hil)] at h1
                exact h1.symm
              have hei : (rankL S P)[i]? = some e.ps := by
                rw [← HT.out] at he
                unfold mkT at he
                simp only at he
                rw [List.getElem?_map] at he
                obtain ⟨y, hy, rfl⟩ := Option.map_eq_some_iff.1 he
                rw [List.getElem?_zip_eq_some] at hy
                exact hy.1
              exact Rowp.of_own encPc_len (hog.rows i x.1 e.ps hvi hei) rfl (by decide) (fun p _ => rfl))
            exact bodyPost_ret (v := .tuple #[tabV S (.slice A0 n0 c0) (.slice Au k cu) (.slice Ac cn dc), .bool true]) (by simp [results, Try.results73, go_sem, tab0, tabV, tabC, y0, y1, y2, y3, y4, y5, y6, y7, y8, y9, y10]) rfl (.inr ⟨HMB.out, Au, k, cu, Ac, cn, dc, rfl, HITZ.out, HBZ.out, fun a ha => by
              have h1 := own_ge HOI.out.out a.block (by rw [ha]; rfl)
              have h2 := HW1S.out
              have h3 := HW2S.out
              omega⟩)
end
end Go.Proofs.Ytmhochjpdedlgaa
