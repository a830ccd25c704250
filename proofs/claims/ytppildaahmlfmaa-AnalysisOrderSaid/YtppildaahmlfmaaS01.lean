/- Joined: Plans, Tops, Order. -/
import Derived.Test.YtppildaahmlfmaaS00
import Derived.Deep.QuietTactic
import Derived.BigQuiet
import Derived.BigRegion
import Derived.Test.YtppildaahmlfmaaQ52
set_option linter.unusedVariables false
set_option linter.unusedSimpArgs false
/- Package tourbillonlaw17: plans (contract): two plans are alike. -/
set_option linter.unusedVariables false
set_option linter.unusedSimpArgs false
namespace Go.Proofs.Ytppildaahmlfmaa
open Go.RowKit
def pcV (p : Pc) : Value := .agg #[.int .i64 p.core, .int .i64 p.bud, .int .i64 p.dl, .int .i64 p.prio, .bool p.tight]
theorem pc_eq (p q : Pc) : (p == q) = (p.core == q.core && (p.bud == q.bud && (p.dl == q.dl && (p.prio == q.prio && p.tight == q.tight)))) := by
  obtain ⟨a, b, c, d, e⟩ := p
  obtain ⟨a', b', c', d', e'⟩ := q
  rw [Bool.eq_iff_iff]
  simp
theorem piece_ne (p q : Pc) (w : World) : (binOp BinOp.neq 41 (pcV p) (pcV q)).run Try.prog w = .ok (.bool (!(p == q))) w := by
  unfold pcV
  rw [pc_eq]
  go_simp
  by_cases h1 : p.core = q.core
  · by_cases h2 : p.bud = q.bud
    · by_cases h3 : p.dl = q.dl
      · by_cases h4 : p.prio = q.prio
        · by_cases h5 : p.tight = q.tight
          · simp [h1, h2, h3, h4, h5]
          · simp [h1, h2, h3, h4, h5]
        · simp [h1, h2, h3, h4]
      · simp [h1, h2, h3]
    · simp [h1, h2]
  · simp [h1]
theorem piece_guard (o p : Operand) (x y : Pc) (w : World) : (eqGuard BinOp.neq 41 o p (pcV x) (pcV y)).run Try.prog w = .ok () w := by unfold pcV; go_simp
/-- How far two lists are found alike. -/
theorem eq_all {α : Type} {a b : List α} {n : Nat} (h : a.take n = b.take n) (ha : n = a.length) (hb : n = b.length) : a = b := by
  rw [List.take_of_length_le (by omega), List.take_of_length_le (by omega)] at h
  exact h
theorem eq_step {α : Type} {a b : List α} {k : Nat} {x : α} (h : a.take k = b.take k) (ha : a[k]? = some x) (hb : b[k]? = some x) : a.take (k + 1) = b.take (k + 1) := by rw [take_next ha, take_next hb, h]
theorem ne_step {α : Type} {a b : List α} {k : Nat} {x y : α} (hx : a[k]? = some x) (hy : b[k]? = some y) (hne : x ≠ y) : a ≠ b := fun e => by
  subst e
  rw [hx] at hy
  injection hy with hy
  exact hne hy

section
variable {w : World}
set_option maxRecDepth 100000 in
set_option maxHeartbeats 6400000 in
theorem plans_any (L M : Pl) (A : Option Addr) (n c : Nat) (B : Option Addr) (m d : Nat) (hl : Rowp 1 (RowR 5 pcR) w (.slice A n c) L) (hm : Rowp 1 (RowR 5 pcR) w (.slice B m d) M) :
    Calls Try.prog 13 #[.slice A n c, .slice B m d] w fun e w' => e = .returned (.bool (decide (L = M))) ∧ Below w.heap.size w w' := by
  have hn := hl.len
  have hn2 := hm.len
  have hnm : n ≤ 9223372036854775807 := by have := hl.room; unfold maxLen at this; omega
  have hmm : m ≤ 9223372036854775807 := by have := hm.room; unfold maxLen at this; omega
  have HL := hid hl
  have HM := hid hm
  have HN := hid hn
  have HN2 := hid hn2
  clear hl hm hn hn2
  by_cases hnn : n = m
  case neg =>
    have hb : ((n : Int) != (m : Int)) = true := bne_iff_ne.2 (by omega)
    have HD := hid (show decide (L = M) = false from decide_eq_false (fun e => hnn (by rw [HN.out, HN2.out, e])))
    clear hnn
    go_enter Try.func13, Try.ntmps13
    go_wp2_with fail
    go_ret
    exact ⟨by rw [HD.out]; rfl, Below.refl _ _⟩
  case pos =>
    subst hnn
    have hb : ((n : Int) != (n : Int)) = false := by simp
    go_enter Try.func13, Try.ntmps13
    go_wp2_with fail
    go_loopw [5] (fun v wr => ∃ k : Nat, k ≤ n ∧ v = .int .i64 k ∧ Hid (L.take k = M.take k) ∧ Hid (Below w.heap.size w wr)) (fun v _ => n - (intOf v).toNat)
    case atStart => exact ⟨0, by omega, rfl, hid rfl, hid (Below.refl _ _)⟩
    case round =>
      obtain ⟨k, hk, rfl, HT, HB⟩ := hrel
      by_cases hlt : k < n
      case neg =>
        obtain rfl : k = n := by omega
        have HD := hid (show decide (L = M) = true from decide_eq_true (eq_all HT.out HN.out HN2.out))
        go_wp2_with fail
        go_ret
        exact ⟨by rw [HD.out]; rfl, HB.out⟩
      case pos =>
        obtain ⟨p, hp⟩ : ∃ x, L[k]? = some x := ⟨_, List.getElem?_eq_getElem (by have := HN.out; omega)⟩
        obtain ⟨q, hq⟩ : ∃ y, M[k]? = some y := ⟨_, List.getElem?_eq_getElem (by have := HN2.out; omega)⟩
        obtain ⟨b, o, cs, hA, hbl, _, hc, u, hr, hru⟩ := HL.out.at hp
        subst hA
        subst hr
        obtain ⟨b2, o2, cs2, hA2, hbl2, _, hc2, u2, hr2, hru2⟩ := HM.out.at hq
        subst hA2
        subst hr2
        obtain ⟨A3, c3, hu3, _⟩ := hru.shape
        obtain ⟨A4, c4, hu4, _⟩ := hru2.shape
        obtain ⟨n3, hn3⟩ : ∃ n3, p.length = n3 := ⟨_, rfl⟩
        obtain ⟨n4, hn4⟩ : ∃ n4, q.length = n4 := ⟨_, rfl⟩
        rw [hn3] at hu3
        rw [hn4] at hu4
        subst hu3
        subst hu4
        have HQ0 := hid (fun W (z : Below w.heap.size w W) => show W.cell? ⟨b, o + k, none⟩ = some (.slice A3 n3 c3) from (z.cell (p := ⟨b, o + k, none⟩) hbl).trans (by simpa using hc 0 _ rfl))
        have HQ1 := hid (fun W (z : Below w.heap.size w W) => show W.cell? ⟨b2, o2 + k, none⟩ = some (.slice A4 n4 c4) from (z.cell (p := ⟨b2, o2 + k, none⟩) hbl2).trans (by simpa using hc2 0 _ rfl))
        have HR1 := hid hru
        have HR2 := hid hru2
        have HP := hid hp
        have HQ := hid hq
        have HN3 := hid hn3
        have HN4 := hid hn4
        have q0 := HQ0.out wr HB.out
        have q1 := HQ1.out wr HB.out
        have hn3m : n3 ≤ 9223372036854775807 := by have := hru.room; unfold maxLen at this; omega
        clear hp hq hc hru hc2 hru2 hbl hbl2 hn3 hn4
        go_upto_region 6 with fail
        by_cases h34 : n3 = n4
        case neg =>
          have hbn : ((n3 : Int) != (n4 : Int)) = true := bne_iff_ne.2 (by omega)
          have HD := hid (show decide (L = M) = false from decide_eq_false (ne_step HP.out HQ.out (fun e => h34 (by rw [← HN3.out, ← HN4.out, e]))))
          clear h34
          go_quiet (fail)
          go_wp2_with fail
          go_ret
          exact ⟨by rw [HD.out]; rfl, ((Fr.of_below (S := NoB) HB.out).drewN nq).no⟩
        case pos =>
          subst h34
          have hbn : ((n3 : Int) != (n3 : Int)) = false := by simp
          go_quiet (fail)
          have HBq := hid ((Fr.of_below (S := NoB) HB.out).drewN nq).no
          obtain ⟨wq, hwq⟩ : ∃ wq, wr.drewN nq = wq := ⟨_, rfl⟩
          rw [hwq] at HBq ⊢
          clear hwq q0 q1 HB hbn
          go_wp2_with fail
          go_loopw [6] (fun v wr => ∃ j : Nat, j ≤ n3 ∧ v = .int .i64 j ∧ Hid (p.take j = q.take j) ∧ Hid (Below w.heap.size w wr)) (fun v _ => n3 - (intOf v).toNat)
          case atStart => exact ⟨0, by omega, rfl, hid rfl, HBq⟩
          case round =>
            obtain ⟨j, hj, rfl, HTJ, HB⟩ := hrel
            have q0 := HQ0.out wr HB.out
            have q1 := HQ1.out wr HB.out
            by_cases hlj : j < n3
            case neg =>
              obtain rfl : j = n3 := by omega
              have HTN := hid (eq_step HT.out HP.out (by rw [eq_all HTJ.out HN3.out.symm HN4.out.symm]; exact HQ.out))
              go_wp2_with fail
              go_roundw
              case rel => exact ⟨k + 1, by omega, by go_num, HTN, HB⟩
              case measure => simp [intOf]; omega
            case pos =>
              obtain ⟨x, hx⟩ : ∃ x, p[j]? = some x := ⟨_, List.getElem?_eq_getElem (by have := HN3.out; omega)⟩
              obtain ⟨y, hy⟩ : ∃ y, q[j]? = some y := ⟨_, List.getElem?_eq_getElem (by have := HN4.out; omega)⟩
              obtain ⟨b5, o5, cs5, hA5, hbl5, _, hc5, hr5⟩ := (HR1.out.later pcR.stays HB.out).at hx
              subst hA5
              have hr5' : cs5 = [.int .i64 x.core, .int .i64 x.bud, .int .i64 x.dl, .int .i64 x.prio, .bool x.tight] := hr5
              subst hr5'
              obtain ⟨b6, o6, cs6, hA6, hbl6, _, hc6, hr6⟩ := (HR2.out.later pcR.stays HB.out).at hy
              subst hA6
              have hr6' : cs6 = [.int .i64 y.core, .int .i64 y.bud, .int .i64 y.dl, .int .i64 y.prio, .bool y.tight] := hr6
              subst hr6'
              have e0 : wr.cell? ⟨b5, o5 + j * 5, none⟩ = some (.int .i64 x.core) := by simpa using hc5 0 _ rfl
              have e0d : wr.drew.cell? ⟨b5, o5 + j * 5, none⟩ = some (.int .i64 x.core) := e0
              have e1 : wr.cell? ⟨b5, o5 + j * 5 + 1, none⟩ = some (.int .i64 x.bud) := by simpa using hc5 1 _ rfl
              have e1d : wr.drew.cell? ⟨b5, o5 + j * 5 + 1, none⟩ = some (.int .i64 x.bud) := e1
              have e2 : wr.cell? ⟨b5, o5 + j * 5 + 2, none⟩ = some (.int .i64 x.dl) := by simpa using hc5 2 _ rfl
              have e2d : wr.drew.cell? ⟨b5, o5 + j * 5 + 2, none⟩ = some (.int .i64 x.dl) := e2
              have e3 : wr.cell? ⟨b5, o5 + j * 5 + 3, none⟩ = some (.int .i64 x.prio) := by simpa using hc5 3 _ rfl
              have e3d : wr.drew.cell? ⟨b5, o5 + j * 5 + 3, none⟩ = some (.int .i64 x.prio) := e3
              have e4 : wr.cell? ⟨b5, o5 + j * 5 + 4, none⟩ = some (.bool x.tight) := by simpa using hc5 4 _ rfl
              have e4d : wr.drew.cell? ⟨b5, o5 + j * 5 + 4, none⟩ = some (.bool x.tight) := e4
              have f0 : wr.cell? ⟨b6, o6 + j * 5, none⟩ = some (.int .i64 y.core) := by simpa using hc6 0 _ rfl
              have f0d : wr.drew.cell? ⟨b6, o6 + j * 5, none⟩ = some (.int .i64 y.core) := f0
              have f1 : wr.cell? ⟨b6, o6 + j * 5 + 1, none⟩ = some (.int .i64 y.bud) := by simpa using hc6 1 _ rfl
              have f1d : wr.drew.cell? ⟨b6, o6 + j * 5 + 1, none⟩ = some (.int .i64 y.bud) := f1
              have f2 : wr.cell? ⟨b6, o6 + j * 5 + 2, none⟩ = some (.int .i64 y.dl) := by simpa using hc6 2 _ rfl
              have f2d : wr.drew.cell? ⟨b6, o6 + j * 5 + 2, none⟩ = some (.int .i64 y.dl) := f2
              have f3 : wr.cell? ⟨b6, o6 + j * 5 + 3, none⟩ = some (.int .i64 y.prio) := by simpa using hc6 3 _ rfl
              have f3d : wr.drew.cell? ⟨b6, o6 + j * 5 + 3, none⟩ = some (.int .i64 y.prio) := f3
              have f4 : wr.cell? ⟨b6, o6 + j * 5 + 4, none⟩ = some (.bool y.tight) := by simpa using hc6 4 _ rfl
              have f4d : wr.drew.cell? ⟨b6, o6 + j * 5 + 4, none⟩ = some (.bool y.tight) := f4
              have q0d : wr.drew.cell? ⟨b, o + k, none⟩ = some (.slice (some ⟨b5, o5, none⟩) n3 c3) := q0
              have q1d : wr.drew.cell? ⟨b2, o2 + k, none⟩ = some (.slice (some ⟨b6, o6, none⟩) n3 c4) := q1
              have HX := hid hx
              have HY := hid hy
              have HBD := hid (below_drewN' HB.out 1)
              have hpn := piece_ne x y
              have hpg := fun o p => piece_guard o p x y
              obtain ⟨bb, hbb⟩ : ∃ bb, (!(x == y)) = bb := ⟨_, rfl⟩
              rw [hbb] at hpn
              have HBB := hid hbb
              clear hx hy hc5 hr5 hc6 hr6 hbl5 hbl6 hbb
              unfold pcV at hpn hpg
              obtain ⟨xc, xb, xd, xp, xt⟩ := x
              obtain ⟨yc, yb, yd, yp, yt⟩ := y
              simp only at e0 e0d e1 e1d e2 e2d e3 e3d e4 e4d f0 f0d f1 f1d f2 f2d f3 f3d f4 f4d hpn hpg
              cases bb
              case false =>
                have he : (⟨xc, xb, xd, xp, xt⟩ : Pc) = ⟨yc, yb, yd, yp, yt⟩ := by have := HBB.out; simpa using this
                have HTN := hid (eq_step HTJ.out HX.out (by rw [he]; exact HY.out))
                clear he
                go_upto_region 11 with fail
                go_region
                clear e0 e0d e1 e1d e2 e2d e3 e3d e4 e4d f0 f0d f1 f1d f2 f2d f3 f3d f4 f4d hpn hpg q0d q1d
                go_wp2_with fail
                go_roundw
                case rel => exact ⟨j + 1, by omega, by go_num, HTN, HBD⟩
                case measure => simp [intOf]; omega
              case true =>
                have he : (⟨xc, xb, xd, xp, xt⟩ : Pc) ≠ ⟨yc, yb, yd, yp, yt⟩ := fun e => by have := HBB.out; rw [e] at this; simp at this
                have HD := hid (show decide (L = M) = false from decide_eq_false (ne_step HP.out HQ.out (ne_step HX.out HY.out he)))
                clear he
                go_upto_region 11 with fail
                go_region
                clear e0 e0d e1 e1d e2 e2d e3 e3d e4 e4d f0 f0d f1 f1d f2 f2d f3 f3d f4 f4d hpn hpg q0d q1d
                go_wp2_with fail
                go_ret
                exact ⟨by rw [HD.out]; rfl, HBD.out⟩
end
end Go.Proofs.Ytppildaahmlfmaa
/- AnalysisTops: the law's walk: it returns true. -/
set_option linter.unusedVariables false
set_option linter.unusedSimpArgs false
namespace Go.Proofs.Ytppildaahmlfmaa
open Go.RowKit
theorem mem_upsN {S : Sy} {P : Pl} {c : Int} {n : Nat} {u : Nat × Int} : u ∈ upsN S P c n ↔ ∃ i, i < n ∧ whereAt P i = c ∧ ∃ x ∈ secsOf S i, u = (x.res.toNat, max 1 (prioOf S P i)) := by
  unfold upsN
  rw [List.mem_flatMap]
  constructor
  · rintro ⟨i, hi, hu⟩
    unfold upsT at hu
    split at hu
    · rename_i hc
      obtain ⟨x, hx, rfl⟩ := List.mem_map.1 hu
      exact ⟨i, List.mem_range.1 hi, hc, x, hx, rfl⟩
    · cases hu
  · rintro ⟨i, hi, hc, x, hx, rfl⟩
    refine ⟨i, List.mem_range.2 hi, ?_⟩
    unfold upsT
    rw [if_pos hc]
    exact List.mem_map.2 ⟨x, hx, rfl⟩
/-- Is task i a whole one of a core that asks for a resource? -/
def useB (S : Sy) (P : Pl) (c r : Int) (i : Nat) : Bool := decide (whereAt P i = c) && asksB (secsOf S i) r
theorem secs_ok {S : Sy} (h : RightS S) {i : Nat} {x : Sec} (hx : x ∈ secsOf S i) : 0 ≤ x.res ∧ x.res < S.resn := by
  unfold secsOf at hx
  cases ht : S.tasks[i]? with
  | none => rw [ht] at hx; cases hx
  | some t =>
    rw [ht] at hx
    have := (h.tasks t (List.mem_of_getElem? ht)).s x hx
    exact ⟨this.r0, this.r1⟩
theorem useB_iff {S : Sy} {P : Pl} (h : RightS S) {c : Int} {r : Nat} {n i : Nat} (hi : i < n) (hu : useB S P c r i = true) : (r, max 1 (prioOf S P i)) ∈ upsN S P c n := by
  unfold useB asksB at hu
  simp only [Bool.and_eq_true, decide_eq_true_eq, List.any_eq_true] at hu
  obtain ⟨hc, x, hx, hr⟩ := hu
  exact mem_upsN.2 ⟨i, hi, hc, x, hx, by rw [hr]; rfl⟩
theorem tops_user {S : Sy} {P : Pl} (h : RightS S) {c : Int} {r : Nat} {n i : Nat} (hi : i < n) (hu : useB S P c r i = true) : topF (upsN S P c n) r ≠ 0 ∧ topF (upsN S P c n) r ≤ max 1 (prioOf S P i) :=
  (topF_le (fun u hu => by obtain ⟨j, _, _, x, _, rfl⟩ := mem_upsN.1 hu; exact Int.le_max_left ..) r).1 _ (useB_iff h hi hu) rfl
theorem tops_met {S : Sy} {P : Pl} (h : RightS S) {c : Int} {r n : Nat} : topF (upsN S P c n) r = 0 ∨ ∃ i, i < n ∧ useB S P c r i = true ∧ topF (upsN S P c n) r = max 1 (prioOf S P i) := by
  rcases (topF_le (L := upsN S P c n) (fun u hu => by obtain ⟨j, _, _, x, _, rfl⟩ := mem_upsN.1 hu; exact Int.le_max_left ..) r).2 with h0 | ⟨u, hu, he, h1⟩
  · exact .inl h0
  · obtain ⟨i, hi, hc, x, hx, rfl⟩ := mem_upsN.1 hu
    refine .inr ⟨i, hi, ?_, h1.symm⟩
    have h2 := secs_ok h hx
    have he : x.res.toNat = r := he
    unfold useB asksB
    simp only [Bool.and_eq_true, decide_eq_true_eq, List.any_eq_true]
    exact ⟨hc, x, hx, by omega⟩
/-- What the law's walk has met so far. -/
def metB (S : Sy) (P : Pl) (c r : Int) (T : Int) : Nat → Bool
  | 0 => decide (T = 0)
  | k + 1 => metB S P c r T k || (useB S P c r k && decide (T = max 1 (prioOf S P k)))
theorem metB_of {S : Sy} {P : Pl} {c r T : Int} : ∀ {n : Nat}, (T = 0 ∨ ∃ i, i < n ∧ useB S P c r i = true ∧ T = max 1 (prioOf S P i)) → metB S P c r T n = true
  | 0, h => by
    rcases h with h | ⟨i, hi, _⟩
    · exact decide_eq_true h
    · omega
  | n + 1, h => by
    unfold metB
    rcases h with h | ⟨i, hi, hu, hT⟩
    · rw [metB_of (.inl h)]; rfl
    · by_cases e : i = n
      · subst e
        rw [hu, decide_eq_true hT]; simp
      · rw [metB_of (.inr ⟨i, by omega, hu, hT⟩)]; rfl
theorem metB_skip {S : Sy} {P : Pl} {c r T : Int} {k : Nat} (h : useB S P c r k = false) : metB S P c r T (k + 1) = metB S P c r T k := by
  show (metB S P c r T k || (useB S P c r k && _)) = _
  rw [h]; simp
theorem metB_use {S : Sy} {P : Pl} {c r T : Int} {k : Nat} (h : useB S P c r k = true) : metB S P c r T (k + 1) = (metB S P c r T k || decide (T = max 1 (prioOf S P k))) := by
  show (metB S P c r T k || (useB S P c r k && _)) = _
  rw [h]; simp
/-- The ranked plan that Rank has made. -/
theorem gr_plan {w : World} {base g n : Nat} {V : Nat → Value} {S : Sy} {P : Pl} (h : GR w base g n n V (rowsC S P S.cores)) (hp : planB S P = true) (hn : n = P.length) : Rowp 1 (RowR 5 pcR) w (.slice (some ⟨g, 0, none⟩) n n) (rankL S P) := by
  have hok := planB_ok hp
  have h1 := h.plan
  subst hn
  have h2 : (List.range P.length).map (rowsC S P S.cores) = rankL S P := rankL_rows (fun x hx => by
    obtain ⟨l, hl, hk⟩ := mem_parts.1 hx
    obtain ⟨t, ht⟩ : ∃ t, S.tasks[x.task]? = some t := ⟨_, List.getElem?_eq_getElem (by have := (List.getElem?_eq_some_iff.1 hl).1; have := hok.len; omega)⟩
    have h3 := listOk_pcs hok.sys (hok.sys.tasks t (List.mem_of_getElem? ht)) (hok.lists x.task t l ht hl)
    exact decide_eq_true (h3.2 x.p (List.mem_of_getElem? hk)).c1)
  rwa [h2] at h1
theorem whereAt_row {S : Sy} {P : Pl} {i : Nat} {pl : List Pc} (h : (rankL S P)[i]? = some pl) : whereAt P i = whereOf pl := by
  have h1 : whereAt P i = ((whereL P)[i]?).getD (-1) := rfl
  rw [h1, ← whereL_rank S P]
  unfold whereL
  rw [List.getElem?_map, h]
  rfl
theorem ceilL_at {S : Sy} {P : Pl} {c : Nat} (h : c < S.cores.toNat) : (ceilL S P)[c]? = some (ceilRow S P c) := by
  unfold ceilL
  rw [List.getElem?_map, List.getElem?_range h]
  rfl
theorem ceilRow_at {S : Sy} {P : Pl} {c : Int} {r : Nat} (h : r < S.resn.toNat) : (ceilRow S P c)[r]? = some (topF (upsN S P c P.length) r) := by
  unfold ceilRow
  rw [List.getElem?_map, List.getElem?_range h]
  rfl
section
variable {w : World}
set_option maxRecDepth 100000 in
set_option maxHeartbeats 12800000 in
theorem tops_any (S : Sy) (A0 : Option Addr) (n0 c0 : Nat) (A : Option Addr) (n cap : Nat) (P : Pl) (hs : IsSys w (.slice A0 n0 c0) S) (hp : IsPlan w (.slice A n cap) P) :
    Calls Try.prog 7 #[sysV S (.slice A0 n0 c0), .slice A n cap] w fun e w' => e = .returned (.bool true) ∧ Below w.heap.size w w' := by
  have hn := hp.rows.len
  have hn0 := hs.tasks.len
  have HS := hid hs
  have HP := hid hp
  have HN := hid hn
  have HN0 := hid hn0
  have HEX := hid (fun W => examples17_any (w := W))
  have HCE := hid (fun W (h : Below w.heap.size w W) => pceil_any (w := W) S A0 n0 c0 A n cap P (hs.later h) (hp.later h))
  have HRA := hid (fun W (h : Below w.heap.size w W) => rank_any (w := W) S A0 n0 c0 A n cap P (hs.later h) (hp.later h))
  have HPR := hid (fun W (h : Below w.heap.size w W) => pright_any (w := W) S A0 n0 c0 A n cap P (hs.later h) (hp.later h))
  have hq0 := blk_new w (.cells (sysC S (.slice A0 n0 c0)) 24)
  have HSY := hid (show SyAt w (w.alloc (.cells (sysC S (.slice A0 n0 c0)) 24)) w.heap.size S (.slice A0 n0 c0) from ⟨hq0, below_new (Below.refl w.heap.size w) _⟩)
  have hnm : n ≤ 9223372036854775807 := by have := hp.rows.room; unfold maxLen at this; omega
  clear hs hp hn hn0 hq0
  unfold sysV at HCE HRA HPR ⊢
  unfold sysC at HSY
  go_enter Try.func7, Try.ntmps7
  go_upto_region 1 with fail
  obtain ⟨w1, hw1⟩ : ∃ w1, w.alloc (.cells #[.int .i64 S.cores, .int .i64 S.policy, .int .i64 S.prot, .int .i64 S.rel, .int .i64 S.sw, .int .i64 S.fin, .int .i64 S.lat, .int .i64 S.resn, .slice A0 n0 c0] 24) = w1 := ⟨_, rfl⟩
  rw [hw1] at HSY ⊢
  clear hw1
  go_wp2_with fail
  refine (HEX.out w1).mono ?_
  rintro e w2 ⟨rfl, hb2⟩
  have HSY2 := hid (HSY.out.later hb2)
  clear hb2 HSY HEX
  obtain ⟨s00, s01, s02, s03, s04, s05, s06, s07, s08⟩ := HSY2.out.cells
  go_wp2_with fail
  refine (HCE.out w2 HSY2.out.below).mono ?_
  intro e w3 hor
  rcases hor with ⟨hpb, rfl, hb3⟩ | ⟨hpb, uc, X, rfl, hct, hb3⟩
  · have HPB := hid hpb
    have HSY3 := hid (HSY2.out.later hb3)
    clear hb3 HSY2 hpb s00 s01 s02 s03 s04 s05 s06 s07 s08
    obtain ⟨s00, s01, s02, s03, s04, s05, s06, s07, s08⟩ := HSY3.out.cells
    go_wp2_with fail
    refine (HRA.out w3 HSY3.out.below).mono ?_
    intro e w4 hor
    rcases hor with ⟨hpb, rfl, hb4⟩ | ⟨hpb, _⟩
    · have HSY4 := hid (HSY3.out.later hb4)
      clear hb4 HSY3 hpb s00 s01 s02 s03 s04 s05 s06 s07 s08
      obtain ⟨s00, s01, s02, s03, s04, s05, s06, s07, s08⟩ := HSY4.out.cells
      have HPR2 := hid (HPR.out w4 HSY4.out.below)
      rw [HPB.out] at HPR2
      go_wp2_with fail
      refine HPR2.out.mono ?_
      rintro e w5 ⟨rfl, hb5⟩
      have HB5 := hid (below_then HSY4.out.below hb5)
      clear hb5 HPR2 s00 s01 s02 s03 s04 s05 s06 s07 s08
      go_wp2_with fail
      go_ret
      exact ⟨rfl, HB5.out⟩
    · rw [HPB.out] at hpb
      cases hpb
  · have HPB := hid hpb
    have HSY3 := hid (HSY2.out.later hb3)
    obtain ⟨Ac, cc, rfl⟩ := own_slice hct.out
    have HCT := hid hct
    clear hb3 HSY2 hpb hct s00 s01 s02 s03 s04 s05 s06 s07 s08
    obtain ⟨s00, s01, s02, s03, s04, s05, s06, s07, s08⟩ := HSY3.out.cells
    go_wp2_with fail
    refine (HRA.out w3 HSY3.out.below).mono ?_
    intro e w4 hor
    rcases hor with ⟨hpb, rfl, hb4⟩ | ⟨hpb, g, V, rfl, hgr, hb4⟩
    · rw [HPB.out] at hpb
      cases hpb
    · have HSY4 := hid (HSY3.out.later hb4)
      have hok := planB_ok hpb
      have HOK := hid hok
      have hnn : n = n0 := by have := hok.len; have := HN.out; have := HN0.out; omega
      subst hnn
      obtain ⟨nc, hnc⟩ : ∃ nc : Nat, S.cores = nc := ⟨S.cores.toNat, by have := hok.sys.cores; omega⟩
      obtain ⟨nr, hnr⟩ : ∃ nr : Nat, S.resn = nr := ⟨S.resn.toNat, by have := hok.sys.resn; omega⟩
      have hnc8 : nc ≤ 8 := by have := hok.sys.cores; omega
      have hnr8 : nr ≤ 1000000 := by have := hok.sys.resn; omega
      have hnct : S.cores.toNat = nc := by omega
      have HNC := hid hnc
      have HNR := hid hnr
      have hce : Rowp 1 (RowR 1 IntR) w4 (.slice Ac nc cc) (ceilL S P) := by
        have h1 := ((HCT.out.later hb4).plan (by unfold maxLen; omega))
        rw [hnct] at h1
        have h2 : ceilL S P = ((List.range nc).map fun i : Nat => (List.range S.resn.toNat).map (topF (upsN S P (i : Int) P.length))) := by unfold ceilL; rw [hnct]; rfl
        rw [h2]
        exact h1
      have hra := gr_plan hgr hpb HN.out
      have HCE2 := hid hce
      have HRA2 := hid hra
      rw [hnct]
      clear hb4 HSY3 hpb hgr hok s00 s01 s02 s03 s04 s05 s06 s07 s08 hce hra HCT HCE HRA HPR hnct
      have HC := hid HSY4.out.cells
      rw [hnc, hnr] at HC
      clear hnc hnr
      obtain ⟨s00, s01, s02, s03, s04, s05, s06, s07, s08⟩ := HC.out
      clear HC
      go_wp2_with fail
      clear s00 s01 s02 s03 s04 s05 s06 s07 s08
      try simp only [Bool.or_false, Bool.or_self]
      go_loopw [10] (fun i wr => ∃ c : Nat, c ≤ nc ∧ i = .int .i64 c ∧ Below w4.heap.size w4 wr) (fun i _ => nc - (intOf i).toNat)
      case atStart => exact ⟨0, by omega, rfl, Below.refl _ _⟩
      case round =>
        obtain ⟨c, hc, rfl, hb⟩ := hrel
        have HB := hid hb
        have HSYr := hid (HSY4.out.later hb)
        have y0 : wr.cell? ⟨w.heap.size, 0, none⟩ = some (.int .i64 nc) := by rw [← HNC.out]; exact HSYr.out.cells.1
        have y7 : wr.cell? ⟨w.heap.size, 7, none⟩ = some (.int .i64 nr) := by rw [← HNR.out]; exact HSYr.out.cells.2.2.2.2.2.2.2.1
        clear hb
        by_cases hlt : c < nc
        case neg =>
          go_wp2_with fail
          go_ret
          exact ⟨rfl, HSYr.out.below⟩
        case pos =>
          have hrow := ceilL_at (S := S) (P := P) (c := c) (by have := HNC.out; omega)
          obtain ⟨b2, o2, cs2, hA2, hbl2, _, hc2, ul, hv1, hv2⟩ := HCE2.out.at hrow
          subst hA2
          subst hv1
          obtain ⟨A3, c3, hv3, _⟩ := hv2.shape
          rw [show (ceilRow S P c).length = nr by unfold ceilRow; rw [List.length_map, List.length_range]; have := HNR.out; omega] at hv3
          subst hv3
          have HV2 := hid hv2
          have HCQ := hid (fun W (k : Below w4.heap.size w4 W) => show W.cell? ⟨b2, o2 + c, none⟩ = some (.slice A3 nr c3) from (k.cell (p := ⟨b2, o2 + c, none⟩) hbl2).trans (by simpa using hc2 0 _ rfl))
          have q0 := HCQ.out wr HB.out
          clear hrow hc2 hv2 hbl2
          go_upto_region 11 with fail
          go_quiet (fail)
          have HBq := hid ((Fr.of_below (S := NoB) HB.out).drewN nq).no
          obtain ⟨wq, hwq⟩ : ∃ wq, wr.drewN nq = wq := ⟨_, rfl⟩
          rw [hwq] at HBq ⊢
          clear hwq y0 y7 q0 HB HSYr
          go_wp2_with fail
          go_loopw [11] (fun i wr => ∃ r : Nat, r ≤ nr ∧ i = .int .i64 r ∧ Below w4.heap.size w4 wr) (fun i _ => nr - (intOf i).toNat)
          case atStart => exact ⟨0, by omega, rfl, HBq.out⟩
          case round =>
            obtain ⟨r, hr, rfl, hb⟩ := hrel
            have HB := hid hb
            have HSYr := hid (HSY4.out.later hb)
            have y7 : wr.cell? ⟨w.heap.size, 7, none⟩ = some (.int .i64 nr) := by rw [← HNR.out]; exact HSYr.out.cells.2.2.2.2.2.2.2.1
            clear hb
            by_cases hltr : r < nr
            case neg =>
              go_wp2_with fail
              go_roundw
              case rel => exact ⟨c + 1, by omega, by go_num, HB.out⟩
              case measure => simp [intOf]; omega
            case pos =>
              have hT := ceilRow_at (S := S) (P := P) (c := c) (r := r) (by have := HNR.out; omega)
              obtain ⟨b3, o3, cs3, hA3, hbl3, _, hc3, hr3⟩ := HV2.out.at hT
              subst hA3
              obtain ⟨T, hTT⟩ : ∃ T, topF (upsN S P c P.length) r = T := ⟨_, rfl⟩
              rw [hTT] at hr3
              have hr3' : cs3 = [.int .i64 T] := hr3
              subst hr3'
              have HTT := hid hTT
              have HTQ := hid (fun W (k : Below w4.heap.size w4 W) => show W.cell? ⟨b3, o3 + r, none⟩ = some (.int .i64 T) from (k.cell (p := ⟨b3, o3 + r, none⟩) hbl3).trans (by simpa using hc3 0 _ rfl))
              have q0 := HCQ.out wr HB.out
              have q1 := HTQ.out wr HB.out
              have hdT : (T == 0) = decide (T = 0) := rfl
              clear hT hc3 hr3 hbl3 hTT
              go_upto_region 17 with fail
              clear y7 q0 q1 hdT
              go_wp2_with fail
              go_loopw [12, 13] (fun v i wr => ∃ k : Nat, k ≤ n ∧ i = .int .i64 k ∧ v = .bool (metB S P c r T k) ∧ Below w4.heap.size w4 wr) (fun _ i _ => n - (intOf i).toNat)
              case atStart => exact ⟨0, by omega, rfl, rfl, HB.out⟩
              case round =>
                obtain ⟨k, hk, rfl, rfl, hb⟩ := hrel
                have HB := hid hb
                have HSYr := hid (HSY4.out.later hb)
                clear hb
                by_cases hltk : k < n
                case neg =>
                  obtain rfl : k = n := by omega
                  have hmet : metB S P c r T k = true := metB_of (by have h := tops_met (S := S) (P := P) HOK.out.sys (c := (c : Int)) (r := r) (n := P.length); rw [HTT.out, ← HN.out] at h; exact h)
                  rw [hmet]
                  clear hmet
                  go_wp2_with fail
                  go_roundw
                  case rel => exact ⟨r + 1, by omega, by go_num, HB.out⟩
                  case measure => simp [intOf]; omega
                case pos =>
                  obtain ⟨mb, hmb⟩ : ∃ b, metB S P c r T k = b := ⟨_, rfl⟩
                  have HMB := hid hmb
                  rw [hmb]
                  obtain ⟨pl, hpl⟩ : ∃ pl, (rankL S P)[k]? = some pl := ⟨_, List.getElem?_eq_getElem (by unfold rankL; rw [List.length_mapIdx]; have := HN.out; omega)⟩
                  obtain ⟨b4, o4, cs4, hA4, hbl4, _, hc4, ul, hv1, hv4⟩ := HRA2.out.at hpl
                  injection hA4 with hA4
                  injection hA4 with hA5 hA6 _
                  subst hA5 hA6
                  subst hv1
                  obtain ⟨A5, c5, hv3, _⟩ := hv4.shape
                  obtain ⟨m5, hm5⟩ : ∃ m, m = pl.length := ⟨_, rfl⟩
                  rw [← hm5] at hv3
                  subst hv3
                  have HM5 := hid hm5
                  have HWA := hid (whereAt_row hpl)
                  have HPL := hid hpl
                  have HV4 := hid hv4
                  have HG0 := hid (fun W (z : Below w4.heap.size w4 W) => show W.cell? ⟨g, k, none⟩ = some (.slice A5 m5 c5) from (z.cell (p := ⟨g, k, none⟩) hbl4).trans (by simpa using hc4 0 _ rfl))
                  have g0 := HG0.out wr HB.out
                  clear hmb hpl hc4 hbl4 hv4 hm5
                  by_cases h1 : m5 = 1
                  case neg =>
                    have hb1 : ((m5 : Int) == 1) = false := beq_eq_false_iff_ne.2 (by omega)
                    have HU := hid (show metB S P c r T (k + 1) = mb by rw [metB_skip (by unfold useB; rw [HWA.out, whereOf_no (by rw [← HM5.out]; exact h1), decide_eq_false (by omega)]; rfl), HMB.out])
                    clear h1
                    go_wp2_with fail
                    go_roundw
                    case rel => exact ⟨k + 1, by omega, by go_num, by rw [HU.out], HB.out⟩
                    case measure => simp [intOf]; omega
                  case pos =>
                    have hb1 : ((m5 : Int) == 1) = true := by rw [h1]; rfl
                    have h0 : 0 < m5 := by omega
                    obtain ⟨p, hp0⟩ : ∃ p, pl[0]? = some p := ⟨_, List.getElem?_eq_getElem (by have := HM5.out; omega)⟩
                    obtain ⟨b6, o6, cs6, hA7, hbl6, _, hc6, hr6⟩ := HV4.out.at hp0
                    subst hA7
                    have hr6' : cs6 = [.int .i64 p.core, .int .i64 p.bud, .int .i64 p.dl, .int .i64 p.prio, .bool p.tight] := hr6
                    subst hr6'
                    have HWH := hid (whereOf_one (by rw [← HM5.out]; exact h1) hp0)
                    have HPI := hid (show prioOf S P k = p.prio by unfold prioOf; rw [HPL.out]; show ((pl.head?).map Pc.prio).getD 0 = _; rw [List.head?_eq_getElem?, hp0]; rfl)
                    obtain ⟨pc, pb, pd, pp, ti⟩ := p
                    simp only at hc6 HWH HPI
                    have f0 : wr.cell? ⟨b6, o6, none⟩ = some (.int .i64 pc) := (HB.out.cell (p := ⟨b6, o6, none⟩) hbl6).trans (by simpa using hc6 0 _ rfl)
                    have HF3 := hid (fun W (z : Below w4.heap.size w4 W) => show W.cell? ⟨b6, o6 + 3, none⟩ = some (.int .i64 pp) from (z.cell (p := ⟨b6, o6 + 3, none⟩) hbl6).trans (by simpa using hc6 3 _ rfl))
                    have f4 : wr.cell? ⟨b6, o6 + 4, none⟩ = some (.bool ti) := (HB.out.cell (p := ⟨b6, o6 + 4, none⟩) hbl6).trans (by simpa using hc6 4 _ rfl)
                    clear hp0 hbl6 hc6 hr6 h1
                    cases ti
                    case true =>
                      have HU := hid (show metB S P c r T (k + 1) = mb by rw [metB_skip (by unfold useB; rw [HWA.out, HWH.out, if_pos rfl, decide_eq_false (by omega)]; rfl), HMB.out])
                      go_wp2_with fail
                      go_roundw
                      case rel => exact ⟨k + 1, by omega, by go_num, by rw [HU.out], HB.out⟩
                      case measure => simp [intOf]; omega
                    case false =>
                      have HWC := hid (show whereAt P k = pc by rw [HWA.out, HWH.out]; rfl)
                      by_cases hcc : pc = c
                      case neg =>
                        have hbe : (pc == (c : Int)) = false := beq_eq_false_iff_ne.2 hcc
                        have HU := hid (show metB S P c r T (k + 1) = mb by rw [metB_skip (by unfold useB; rw [HWC.out, decide_eq_false hcc]; rfl), HMB.out])
                        clear hcc
                        go_wp2_with fail
                        go_roundw
                        case rel => exact ⟨k + 1, by omega, by go_num, by rw [HU.out], HB.out⟩
                        case measure => simp [intOf]; omega
                      case pos =>
                        have hbe : (pc == (c : Int)) = true := by rw [hcc]; exact beq_self_eq_true _
                        obtain ⟨t, ht⟩ : ∃ t, S.tasks[k]? = some t := ⟨_, List.getElem?_eq_getElem (by have := HN0.out; omega)⟩
                        obtain ⟨b7, o7, cs7, hA8, hbl7, _, hc7, us, hu1, hu2⟩ := HS.out.tasks.at ht
                        subst hA8
                        subst hu1
                        obtain ⟨A8, c8, hu3, _⟩ := hu2.shape
                        obtain ⟨m8, hm8⟩ : ∃ m, m = t.secs.length := ⟨_, rfl⟩
                        rw [← hm8] at hu3
                        subst hu3
                        have y8 : wr.cell? ⟨w.heap.size, 8, none⟩ = some (.slice (some ⟨b7, o7, none⟩) n c0) := HSYr.out.cells.2.2.2.2.2.2.2.2
                        have t0 : wr.cell? ⟨b7, o7 + k * 4, none⟩ = some (.int .i64 t.per) := (HSYr.out.below.cell (p := ⟨b7, o7 + k * 4, none⟩) hbl7).trans (by simpa using hc7 0 _ rfl)
                        have t1 : wr.cell? ⟨b7, o7 + k * 4 + 1, none⟩ = some (.int .i64 t.dl) := (HSYr.out.below.cell (p := ⟨b7, o7 + k * 4 + 1, none⟩) hbl7).trans (hc7 1 _ rfl)
                        have t2 : wr.cell? ⟨b7, o7 + k * 4 + 2, none⟩ = some (.int .i64 t.wc) := (HSYr.out.below.cell (p := ⟨b7, o7 + k * 4 + 2, none⟩) hbl7).trans (hc7 2 _ rfl)
                        have t3 : wr.cell? ⟨b7, o7 + k * 4 + 3, none⟩ = some (.slice A8 m8 c8) := (HSYr.out.below.cell (p := ⟨b7, o7 + k * 4 + 3, none⟩) hbl7).trans (hc7 3 _ rfl)
                        have HAS := hid (asks_any (w := wr) t.per t.dl t.wc A8 m8 c8 t.secs r (hu2.later secR.stays HSYr.out.below))
                        obtain ⟨ub, hub⟩ : ∃ b, asksB t.secs r = b := ⟨_, rfl⟩
                        rw [hub] at HAS
                        have HUB := hid (show useB S P c r k = ub by unfold useB secsOf; rw [HWC.out, hcc, ht, decide_eq_true rfl]; exact hub)
                        clear hcc ht hu2 hc7 hbl7 hm8 hub
                        go_wp2_with fail
                        refine HAS.out.mono ?_
                        rintro e w5 ⟨rfl, hb5⟩
                        have HB5 := hid (below_then HB.out hb5)
                        clear hb5 HAS t0 t1 t2 t3 y8
                        cases ub
                        case false =>
                          have HU := hid (show metB S P c r T (k + 1) = mb by rw [metB_skip HUB.out, HMB.out])
                          clear f0 f4 g0
                          go_wp2_with fail
                          go_roundw
                          case rel => exact ⟨k + 1, by omega, by go_num, by rw [HU.out], HB5.out⟩
                          case measure => simp [intOf]; omega
                        case true =>
                          have HTU := hid (tops_user (S := S) (P := P) HOK.out.sys (c := (c : Int)) (r := r) (n := P.length) (i := k) (by have := HN.out; omega) HUB.out)
                          have HU := hid (metB_use (T := T) HUB.out)
                          rw [HMB.out, HPI.out] at HU
                          rw [HTT.out, HPI.out] at HTU
                          obtain ⟨mp, hmp⟩ : ∃ m, max 1 pp = m := ⟨_, rfl⟩
                          rw [hmp] at HU HTU
                          have hT0 : (T == 0) = false := beq_eq_false_iff_ne.2 HTU.out.1
                          have hTp : decide (mp < T) = false := decide_eq_false (by have := HTU.out.2; omega)
                          clear f0 f4 g0
                          have g0 := HG0.out w5 HB5.out
                          have f3 := HF3.out w5 HB5.out
                          have q0 := HCQ.out w5 HB5.out
                          have q1 := HTQ.out w5 HB5.out
                          cases mb
                          case true =>
                            have HU2 := hid (show metB S P c r T (k + 1) = true by rw [HU.out]; rfl)
                            go_wp2_with fail
                            go_roundw
                            case rel => exact ⟨k + 1, by omega, by go_num, by rw [HU2.out], HB5.out⟩
                            case measure => simp [intOf]; omega
                          case false =>
                            obtain ⟨eb, heb⟩ : ∃ b, decide (T = mp) = b := ⟨_, rfl⟩
                            have hbe2 : (T == mp) = eb := heb
                            have HU2 := hid (show metB S P c r T (k + 1) = eb by rw [HU.out, heb]; rfl)
                            clear heb
                            go_wp2_with fail
                            go_roundw
                            case rel => exact ⟨k + 1, by omega, by go_num, by rw [HU2.out], HB5.out⟩
                            case measure => simp [intOf]; omega
end
end Go.Proofs.Ytppildaahmlfmaa
/- AnalysisOrder: the law's walk: it returns true. -/
set_option linter.unusedVariables false
set_option linter.unusedSimpArgs false
namespace Go.Proofs.Ytppildaahmlfmaa
open Go.RowKit
section
variable {w : World}
set_option maxRecDepth 100000 in
set_option maxHeartbeats 12800000 in
theorem order_any (S : Sy) (A0 : Option Addr) (n0 c0 : Nat) (A : Option Addr) (n cap : Nat) (P : Pl) (hs : IsSys w (.slice A0 n0 c0) S) (hp : IsPlan w (.slice A n cap) P) :
    Calls Try.prog 4 #[sysV S (.slice A0 n0 c0), .slice A n cap] w fun e w' => e = .returned (.bool true) ∧ Below w.heap.size w w' := by
  have hn := hp.rows.len
  have hn0 := hs.tasks.len
  have HS := hid hs
  have HP := hid hp
  have HN := hid hn
  have HN0 := hid hn0
  have HEX := hid (fun W => examples17_any (w := W))
  have HRA := hid (fun W A n cap P (h : Below w.heap.size w W) => rank_any (w := W) S A0 n0 c0 A n cap P (hs.later h))
  have HPR := hid (fun W (h : Below w.heap.size w W) => pright_any (w := W) S A0 n0 c0 A n cap P (hs.later h) (hp.later h))
  have hq0 := blk_new w (.cells (sysC S (.slice A0 n0 c0)) 24)
  have HSY := hid (show SyAt w (w.alloc (.cells (sysC S (.slice A0 n0 c0)) 24)) w.heap.size S (.slice A0 n0 c0) from ⟨hq0, below_new (Below.refl w.heap.size w) _⟩)
  have hnm : n ≤ 9223372036854775807 := by have := hp.rows.room; unfold maxLen at this; omega
  clear hs hp hn hn0 hq0
  unfold sysV at HRA HPR ⊢
  unfold sysC at HSY
  go_enter Try.func4, Try.ntmps4
  go_upto_region 1 with fail
  obtain ⟨w1, hw1⟩ : ∃ w1, w.alloc (.cells #[.int .i64 S.cores, .int .i64 S.policy, .int .i64 S.prot, .int .i64 S.rel, .int .i64 S.sw, .int .i64 S.fin, .int .i64 S.lat, .int .i64 S.resn, .slice A0 n0 c0] 24) = w1 := ⟨_, rfl⟩
  rw [hw1] at HSY ⊢
  clear hw1
  go_wp2_with fail
  refine (HEX.out w1).mono ?_
  rintro e w2 ⟨rfl, hb2⟩
  have HSY2 := hid (HSY.out.later hb2)
  clear hb2 HSY HEX
  obtain ⟨s00, s01, s02, s03, s04, s05, s06, s07, s08⟩ := HSY2.out.cells
  go_wp2_with fail
  refine (HRA.out w2 A n cap P HSY2.out.below (HP.out.later HSY2.out.below)).mono ?_
  intro e w3 hor
  rcases hor with ⟨hpb, rfl, hb3⟩ | ⟨hpb, g, V, rfl, hgr, hb3⟩
  · have HPB := hid hpb
    have HSY3 := hid (HSY2.out.later hb3)
    clear hb3 HSY2 hpb s00 s01 s02 s03 s04 s05 s06 s07 s08
    obtain ⟨s00, s01, s02, s03, s04, s05, s06, s07, s08⟩ := HSY3.out.cells
    have HPR2 := hid (HPR.out w3 HSY3.out.below)
    rw [HPB.out] at HPR2
    go_wp2_with fail
    refine HPR2.out.mono ?_
    rintro e w5 ⟨rfl, hb5⟩
    have HB5 := hid (below_then HSY3.out.below hb5)
    clear hb5 HPR2 s00 s01 s02 s03 s04 s05 s06 s07 s08
    go_wp2_with fail
    go_ret
    exact ⟨rfl, HB5.out⟩
  · have hok := planB_ok hpb
    have HOK := hid hok
    have hnn : n = n0 := by have := hok.len; have := HN.out; have := HN0.out; omega
    subst hnn
    have HSY3 := hid (HSY2.out.later hb3)
    obtain ⟨R, hR⟩ : ∃ R, R = rankL S P := ⟨_, rfl⟩
    have hpR : planB S R = true := by rw [hR, planB_rank]; exact hpb
    have hRR : rankL S R = R := by rw [hR, rankL_rank]
    have hRl : R.length = P.length := by rw [hR]; unfold rankL; simp
    have hra : Rowp 1 (RowR 5 pcR) w3 (.slice (some ⟨g, 0, none⟩) n n) R := by rw [hR]; exact gr_plan hgr hpb HN.out
    have hrw : ∀ l ∈ R, ∀ p ∈ l, Pc.Wf p := by rw [hR]; exact rankL_wf' HP.out.wf (parts_short hok)
    have HRI := hid (show IsPlan w3 (.slice (some ⟨g, 0, none⟩) n n) R from ⟨hra, hrw⟩)
    have HR := hid hR
    have HPB := hid hpb
    have HPR1 := hid hpR
    have HRR := hid hRR
    have HRL := hid hRl
    clear hb3 HSY2 hpb hok hR hpR hRR hRl hra hrw hgr s00 s01 s02 s03 s04 s05 s06 s07 s08 HPR
    obtain ⟨s00, s01, s02, s03, s04, s05, s06, s07, s08⟩ := HSY3.out.cells
    go_wp2_with fail
    refine (HRA.out w3 (some ⟨g, 0, none⟩) n n R HSY3.out.below HRI.out).mono ?_
    intro e w4 hor
    rcases hor with ⟨hpb, _⟩ | ⟨hpb, g2, V2, rfl, hgr2, hb4⟩
    · rw [HPR1.out] at hpb
      cases hpb
    · have hra2 : Rowp 1 (RowR 5 pcR) w4 (.slice (some ⟨g2, 0, none⟩) n n) R := by have h := gr_plan hgr2 hpb (by rw [HRL.out]; exact HN.out); rw [HRR.out] at h; exact h
      have HSY4 := hid (HSY3.out.later hb4)
      have HR4 := hid (HRI.out.later hb4)
      have HPA := hid (plans_any (w := w4) R R (some ⟨g, 0, none⟩) n n (some ⟨g2, 0, none⟩) n n HR4.out.rows hra2)
      rw [decide_eq_true (rfl : R = R)] at HPA
      clear hra2 hb4 hgr2 hpb HSY3 HRI s00 s01 s02 s03 s04 s05 s06 s07 s08 HRA
      go_wp2_with fail
      refine HPA.out.mono ?_
      rintro e w5 ⟨rfl, hb5⟩
      have HSY5 := hid (HSY4.out.later hb5)
      have HR5 := hid (HR4.out.later hb5)
      clear hb5 HSY4 HR4 HPA
      obtain ⟨nc, hnc⟩ : ∃ nc : Nat, S.cores = nc := ⟨S.cores.toNat, by have := HOK.out.sys.cores; omega⟩
      have hnc8 : nc ≤ 8 := by have := HOK.out.sys.cores; omega
      have hnk : ((partsOf R).map keyPt).Nodup := by
        have h := HPR1.out
        unfold planB at h
        simp only [Bool.and_eq_true] at h
        exact keys_nodup.1 h.1.2
      have HND := hid hnk
      have HSH := hid (show (partsOf R).length < 1000000 by rw [HR.out]; exact rank_parts_short HOK.out)
      have HPBD := hid (show ∀ x ∈ partsOf R, 0 ≤ x.p.prio ∧ x.p.prio ≤ 1000000 from fun x hx => by rw [HR.out] at hx; exact prio_bound (parts_short HOK.out) hx)
      have HSYW := hid (fun W (z : Below w5.heap.size w5 W) => show W.cell? ⟨w.heap.size, 0, none⟩ = some (.int .i64 nc) ∧ W.cell? ⟨w.heap.size, 1, none⟩ = some (.int .i64 S.policy) by
        have h := (HSY5.out.later z).cells
        exact ⟨by rw [← hnc]; exact h.1, h.2.1⟩)
      clear hnc hnk
      go_wp2_with fail
      try simp only [Bool.or_false, Bool.or_self]
      go_loopw [11] (fun i wr => ∃ c : Nat, c ≤ nc ∧ i = .int .i64 c ∧ Below w5.heap.size w5 wr) (fun i _ => nc - (intOf i).toNat)
      case atStart => exact ⟨0, by omega, rfl, Below.refl _ _⟩
      case round =>
        obtain ⟨c, hc, rfl, hb⟩ := hrel
        have HB := hid hb
        obtain ⟨y0, y1⟩ := HSYW.out wr hb
        clear hb
        by_cases hlt : c < nc
        case neg =>
          go_wp2_with fail
          go_ret
          exact ⟨rfl, below_then HSY5.out.below HB.out⟩
        case pos =>
          go_upto_region 14 with fail
          clear y0 y1
          go_wp2_with fail
          go_loopw [12, 13, 14] (fun cn sm i wr => ∃ k : Nat, k ≤ n ∧ i = .int .i64 k ∧ cn = .int .i64 (cntP c (partsOf (R.take k)) : Int) ∧ sm = .int .i64 (sumP c (partsOf (R.take k))) ∧ Below w5.heap.size w5 wr) (fun _ _ i _ => n - (intOf i).toNat)
          case atStart => exact ⟨0, by omega, rfl, rfl, rfl, HB.out⟩
          case round =>
            obtain ⟨k, hk, rfl, rfl, rfl, hb⟩ := hrel
            clear HB
            have HB := hid hb
            clear hb
            by_cases hltk : k < n
            case neg =>
              obtain rfl : k = n := by omega
              obtain ⟨y0, y1⟩ := HSYW.out wr HB.out
              have hall : R.take k = R := List.take_of_length_le (by rw [HRL.out]; have := HN.out; omega)
              rw [hall]
              obtain ⟨s, hs⟩ : ∃ s, sumP c (partsOf R) = s := ⟨_, rfl⟩
              obtain ⟨m, hm⟩ : ∃ m, cntP c (partsOf R) = m := ⟨_, rfl⟩
              have hml : m < 1000000 := by have := cntP_bound c (partsOf R); have := HSH.out; omega
              have hsb := sumP_bound (c := c) HPBD.out
              rw [hs] at hsb ⊢
              rw [hm]
              by_cases hpo : S.policy = 1
              case neg =>
                have hbp : (S.policy == 1) = false := beq_eq_false_iff_ne.2 hpo
                clear hall
                go_wp2_with fail
                go_roundw
                case rel => exact ⟨c + 1, by omega, by go_num, HB.out⟩
                case measure => simp [intOf]; omega
              case pos =>
                have hbp : (S.policy == 1) = true := by rw [hpo]; rfl
                have h2s : 2 * s = (m : Int) * ((m : Int) + 1) := by
                  rw [← hs, ← hm, HR.out]
                  exact sum_on hpo (by rw [← HR.out]; exact HND.out) c
                have hmm : (m : Int) * ((m : Int) + 1) ≤ 2000000000000 := by
                  have h1 : (m : Int) * ((m : Int) + 1) ≤ 1000000 * 1000001 := Int.mul_le_mul (by omega) (by omega) (by omega) (by omega)
                  omega
                have h0s : 0 ≤ s := hsb.1
                have x0 : IntKind.i64.wrap ((m : Int) + 1) = (m : Int) + 1 := wraps_i64 _ (by omega) (by omega)
                have x1 : IntKind.i64.wrap ((m : Int) * ((m : Int) + 1)) = (m : Int) * ((m : Int) + 1) := wraps_i64 _ (by omega) (by omega)
                have x2 : Int.tdiv ((m : Int) * ((m : Int) + 1)) 2 = s := half_sum h2s h0s
                have x3 : IntKind.i64.wrap s = s := wraps_i64 _ (by omega) (by omega)
                have hne : (s != s) = false := by simp
                clear hall h2s hmm hsb hpo
                go_wp2_with fail
                go_roundw
                case rel => exact ⟨c + 1, by omega, by go_num, HB.out⟩
                case measure => simp [intOf]; omega
            case pos =>
              obtain ⟨pl, hpl⟩ : ∃ pl, R[k]? = some pl := ⟨_, List.getElem?_eq_getElem (by rw [HRL.out]; have := HN.out; omega)⟩
              obtain ⟨b4, o4, cs4, hA4, hbl4, _, hc4, ul, hv1, hv4⟩ := HR5.out.rows.at hpl
              injection hA4 with hA4
              injection hA4 with hA5 hA6 _
              subst hA5 hA6
              subst hv1
              obtain ⟨A5, c5, hv3, _⟩ := hv4.shape
              obtain ⟨m5, hm5⟩ : ∃ m, m = pl.length := ⟨_, rfl⟩
              rw [← hm5] at hv3
              subst hv3
              have hm5m : m5 ≤ 9223372036854775807 := by have := hv4.room; unfold maxLen at this; omega
              have HM5 := hid hm5
              have HPL := hid hpl
              have HV4 := hid hv4
              have HG0 := hid (fun W (z : Below w5.heap.size w5 W) => show W.cell? ⟨g, k, none⟩ = some (.slice A5 m5 c5) from (z.cell (p := ⟨g, k, none⟩) hbl4).trans (by simpa using hc4 0 _ rfl))
              clear hpl hc4 hbl4 hv4 hm5
              go_wp2_with fail
              go_loopw [12, 13, 15] (fun cn sm i wr => ∃ j : Nat, j ≤ m5 ∧ i = .int .i64 j ∧ cn = .int .i64 (cntP c (seen R k pl j) : Int) ∧ sm = .int .i64 (sumP c (seen R k pl j)) ∧ Below w5.heap.size w5 wr) (fun _ _ i _ => m5 - (intOf i).toNat)
              case atStart => exact ⟨0, by omega, rfl, by rw [seen_zero], by rw [seen_zero], HB.out⟩
              case round =>
                obtain ⟨j, hj, rfl, rfl, rfl, hb⟩ := hrel
                clear HB
                have HB := hid hb
                have g0 := HG0.out wr hb
                clear hb
                by_cases hltj : j < m5
                case neg =>
                  obtain rfl : j = m5 := by omega
                  have hsa : seen R k pl j = partsOf (R.take (k + 1)) := by rw [HM5.out]; exact seen_all HPL.out
                  rw [hsa]
                  clear hsa
                  go_wp2_with fail
                  go_roundw
                  case rel => exact ⟨k + 1, by omega, by go_num, rfl, rfl, HB.out⟩
                  case measure => simp [intOf]; omega
                case pos =>
                  obtain ⟨p, hp⟩ : ∃ p, pl[j]? = some p := ⟨_, List.getElem?_eq_getElem (by have := HM5.out; omega)⟩
                  obtain ⟨b6, o6, cs6, hA7, hbl6, _, hc6, hr6⟩ := HV4.out.at hp
                  subst hA7
                  have hr6' : cs6 = [.int .i64 p.core, .int .i64 p.bud, .int .i64 p.dl, .int .i64 p.prio, .bool p.tight] := hr6
                  subst hr6'
                  have HX := hid (show (⟨p, k, j⟩ : Pt) ∈ partsOf R from mem_parts.2 ⟨pl, HPL.out, hp⟩)
                  have HSN := hid (seen_succ (P := R) (i := k) hp)
                  have HSC := hid (show cntP c (seen R k pl (j + 1)) = if onc c ⟨p, k, j⟩ = true then cntP c (seen R k pl j) + 1 else cntP c (seen R k pl j) by rw [HSN.out, cntP_snoc])
                  have HSS := hid (show sumP c (seen R k pl (j + 1)) = if onc c ⟨p, k, j⟩ = true then sumP c (seen R k pl j) + p.prio else sumP c (seen R k pl j) by rw [HSN.out, sumP_snoc])
                  have hsp : seen R k pl j <+: partsOf R := seen_prefix HPL.out j
                  have hsl : (seen R k pl j).length < 1000000 := by have := hsp.length_le; have := HSH.out; omega
                  have hcb := cntP_bound c (seen R k pl j)
                  have hsb := sumP_bound (c := c) (l := seen R k pl j) (fun x hx => HPBD.out x (hsp.subset hx))
                  have hpb := HPBD.out _ HX.out
                  obtain ⟨s, hs⟩ : ∃ s, sumP c (seen R k pl j) = s := ⟨_, rfl⟩
                  obtain ⟨m, hm⟩ : ∃ m, cntP c (seen R k pl j) = m := ⟨_, rfl⟩
                  rw [hs] at hsb HSS ⊢
                  rw [hm] at hcb HSC ⊢
                  obtain ⟨pc, pb, pd, pp, pt⟩ := p
                  simp only at hc6 hpb
                  have e0 : wr.cell? ⟨b6, o6 + j * 5, none⟩ = some (.int .i64 pc) := (HB.out.cell (p := ⟨b6, o6 + j * 5, none⟩) hbl6).trans (by simpa using hc6 0 _ rfl)
                  have e1 : wr.cell? ⟨b6, o6 + j * 5 + 1, none⟩ = some (.int .i64 pb) := (HB.out.cell (p := ⟨b6, o6 + j * 5 + 1, none⟩) hbl6).trans (hc6 1 _ rfl)
                  have e2 : wr.cell? ⟨b6, o6 + j * 5 + 2, none⟩ = some (.int .i64 pd) := (HB.out.cell (p := ⟨b6, o6 + j * 5 + 2, none⟩) hbl6).trans (hc6 2 _ rfl)
                  have e3 : wr.cell? ⟨b6, o6 + j * 5 + 3, none⟩ = some (.int .i64 pp) := (HB.out.cell (p := ⟨b6, o6 + j * 5 + 3, none⟩) hbl6).trans (hc6 3 _ rfl)
                  have e4 : wr.cell? ⟨b6, o6 + j * 5 + 4, none⟩ = some (.bool pt) := (HB.out.cell (p := ⟨b6, o6 + j * 5 + 4, none⟩) hbl6).trans (hc6 4 _ rfl)
                  have hx0 : IntKind.i64.wrap ((m : Int) + 1) = (m : Int) + 1 := wraps_i64 _ (by omega) (by omega)
                  have hx1 : IntKind.i64.wrap (s + pp) = s + pp := wraps_i64 _ (by omega) (by omega)
                  clear hp hbl6 hc6 hr6 hsp hsl hcb hsb hpb hs hm
                  go_upto_region 21 with fail
                  have hqp := blk_new wr (.cells #[.int .i64 pc, .int .i64 pb, .int .i64 pd, .int .i64 pp, .bool pt] 41)
                  have HBP := hid (below_new HB.out (.cells #[.int .i64 pc, .int .i64 pb, .int .i64 pd, .int .i64 pp, .bool pt] 41))
                  obtain ⟨Z, hZ⟩ : ∃ Z, wr.heap.size = Z := ⟨_, rfl⟩
                  rw [hZ] at hqp ⊢
                  obtain ⟨w6, hw6⟩ : ∃ w6, wr.alloc (.cells #[.int .i64 pc, .int .i64 pb, .int .i64 pd, .int .i64 pp, .bool pt] 41) = w6 := ⟨_, rfl⟩
                  rw [hw6] at hqp HBP ⊢
                  clear hw6 hZ e0 e1 e2 e3 e4 g0 HB
                  have HQW := hid (fun W (z : Below w6.heap.size w6 W) => (fr0 z).blk hqp (fun h => h))
                  have HSYV := hid (fun W (z : Below w6.heap.size w6 W) => (HSYW.out W (below_then HBP.out z)).2)
                  clear hqp
                  have z0 : w6.cell? ⟨Z, 0, none⟩ = some (.int .i64 pc) := blk_cell (HQW.out w6 (Below.refl _ _)) 0
                  have z3 : w6.cell? ⟨Z, 3, none⟩ = some (.int .i64 pp) := blk_cell (HQW.out w6 (Below.refl _ _)) 3
                  have z4 : w6.cell? ⟨Z, 4, none⟩ = some (.bool pt) := blk_cell (HQW.out w6 (Below.refl _ _)) 4
                  have y1 := HSYV.out w6 (Below.refl _ _)
                  by_cases hcc : pc = c
                  case neg =>
                    have hbe : (pc != (c : Int)) = true := bne_iff_ne.2 hcc
                    have hon : onc c ⟨⟨pc, pb, pd, pp, pt⟩, k, j⟩ = false := by unfold onc; rw [decide_eq_false hcc]; rfl
                    rw [hon] at HSC HSS
                    have HSC2 := hid (show cntP c (seen R k pl (j + 1)) = m from HSC.out)
                    have HSS2 := hid (show sumP c (seen R k pl (j + 1)) = s from HSS.out)
                    clear hcc hon HSC HSS
                    go_wp2_with fail
                    go_roundw
                    case rel => exact ⟨j + 1, by omega, by go_num, by rw [HSC2.out], by rw [HSS2.out], HBP.out⟩
                    case measure => simp [intOf]; omega
                  case pos =>
                    have hbe : (pc != (c : Int)) = false := by rw [hcc]; simp
                    cases pt
                    case true =>
                      have h0 : pp = 0 := by have h := HX.out; rw [HR.out] at h; exact prio_off h (.inl rfl)
                      have hb0 : (pp != 0) = false := by rw [h0]; rfl
                      have hon : onc c ⟨⟨pc, pb, pd, pp, true⟩, k, j⟩ = false := by unfold onc; simp
                      rw [hon] at HSC HSS
                      have HSC2 := hid (show cntP c (seen R k pl (j + 1)) = m from HSC.out)
                      have HSS2 := hid (show sumP c (seen R k pl (j + 1)) = s from HSS.out)
                      clear hcc hon HSC HSS h0
                      go_wp2_with fail
                      go_loopw [17] (fun i wr => i = .int .i64 0 ∧ Below w6.heap.size w6 wr) (fun i _ => 0)
                      case atStart => exact ⟨rfl, Below.refl _ _⟩
                      case round =>
                        obtain ⟨rfl, hb⟩ := hrel
                        have HBw := hid hb
                        have z4 : wr.cell? ⟨Z, 4, none⟩ = some (.bool true) := blk_cell (HQW.out wr hb) 4
                        clear hb
                        by_cases hk0 : 0 < k
                        case pos =>
                          have hk1 : (0 : Int) < k := by omega
                          go_wp2_with fail
                          go_roundw
                          case rel => exact ⟨j + 1, by omega, by go_num, by rw [HSC2.out], by rw [HSS2.out], below_then HBP.out HBw.out⟩
                          case measure => simp [intOf]; omega
                        case neg =>
                          have hk1 : ¬ (0 : Int) < k := by omega
                          go_wp2_with fail
                          go_roundw
                          case rel => exact ⟨j + 1, by omega, by go_num, by rw [HSC2.out], by rw [HSS2.out], below_then HBP.out HBw.out⟩
                          case measure => simp [intOf]; omega
                    case false =>
                      have hon : onc c ⟨⟨pc, pb, pd, pp, false⟩, k, j⟩ = true := by unfold onc; rw [decide_eq_true hcc]; rfl
                      rw [hon] at HSC HSS
                      have HON := hid hon
                      have HSC2 := hid (show cntP c (seen R k pl (j + 1)) = m + 1 from HSC.out)
                      have HSS2 := hid (show sumP c (seen R k pl (j + 1)) = s + pp from HSS.out)
                      clear hon HSC HSS
                      have hpp0 : S.policy = 2 → pp = 0 := fun e => by have h := HX.out; rw [HR.out] at h; exact prio_off h (.inr (by omega))
                      have HPP := hid hpp0
                      clear hcc hpp0
                      go_upto_region 22 with fail
                      go_cut [94] (fun v wx => v = .bool false ∧ w6 = wx)
                      case first =>
                        as_aux_lemma =>
                          by_cases hp2 : S.policy = 2
                          case pos =>
                            have hb2 : (S.policy == 2) = true := by rw [hp2]; rfl
                            have hb0 : (pp != 0) = false := by rw [HPP.out hp2]; rfl
                            clear hp2
                            go_wp2_with fail
                            go_meet
                            exact ⟨rfl, rfl⟩
                          case neg =>
                            have hb2 : (S.policy == 2) = false := beq_eq_false_iff_ne.2 hp2
                            clear hp2
                            go_wp2_with fail
                            go_meet
                            exact ⟨rfl, rfl⟩
                      obtain ⟨rfl, rfl⟩ := hcut
                      go_wp2_with fail
                      clear z0 z3 z4 y1
                      go_loopw [17] (fun i wr => ∃ a : Nat, a ≤ k ∧ i = .int .i64 a ∧ Below w6.heap.size w6 wr) (fun i _ => k - (intOf i).toNat)
                      case atStart => exact ⟨0, by omega, rfl, Below.refl _ _⟩
                      case round =>
                        obtain ⟨a, ha, rfl, hb⟩ := hrel
                        have HBw := hid hb
                        have z4 : wr.cell? ⟨Z, 4, none⟩ = some (.bool false) := blk_cell (HQW.out wr hb) 4
                        clear hb
                        by_cases hak : a < k
                        case neg =>
                          have hk1 : ¬ (a : Int) < k := by omega
                          go_wp2_with fail
                          go_roundw
                          case rel => exact ⟨j + 1, by omega, by go_num, by rw [HSC2.out]; go_num, by rw [HSS2.out], below_then HBP.out HBw.out⟩
                          case measure => simp [intOf]; omega
                        case pos =>
                          have hk1 : (a : Int) < k := by omega
                          obtain ⟨pl2, hpl2⟩ : ∃ pl, R[a]? = some pl := ⟨_, List.getElem?_eq_getElem (by rw [HRL.out]; have := HN.out; omega)⟩
                          obtain ⟨b7, o7, cs7, hA8, hbl7, _, hc7, ul7, hv7, hv8⟩ := HR5.out.rows.at hpl2
                          injection hA8 with hA8
                          injection hA8 with hA8 hA9 _
                          subst hA8 hA9
                          subst hv7
                          obtain ⟨A7, c7, hv9, _⟩ := hv8.shape
                          obtain ⟨m7, hm7⟩ : ∃ m, m = pl2.length := ⟨_, rfl⟩
                          rw [← hm7] at hv9
                          subst hv9
                          have hm7m : m7 ≤ 9223372036854775807 := by have := hv8.room; unfold maxLen at this; omega
                          have HM7 := hid hm7
                          have HPL2 := hid hpl2
                          have HV8 := hid hv8
                          have HGA := hid (fun W (z : Below w5.heap.size w5 W) => show W.cell? ⟨g, a, none⟩ = some (.slice A7 m7 c7) from (z.cell (p := ⟨g, a, none⟩) hbl7).trans (by simpa using hc7 0 _ rfl))
                          clear hpl2 hc7 hbl7 hv8 hm7
                          go_upto_region 30 with fail
                          clear z4
                          go_wp2_with fail
                          go_loopw [18] (fun i wr => ∃ q : Nat, q ≤ m7 ∧ i = .int .i64 q ∧ Below w6.heap.size w6 wr) (fun i _ => m7 - (intOf i).toNat)
                          case atStart => exact ⟨0, by omega, rfl, HBw.out⟩
                          case round =>
                            obtain ⟨q, hq, rfl, hb⟩ := hrel
                            clear HBw
                            have HBw := hid hb
                            have HB5 := hid (below_then HBP.out hb)
                            clear hb
                            have g0 := HGA.out wr HB5.out
                            by_cases hqm : q < m7
                            case neg =>
                              obtain rfl : q = m7 := by omega
                              go_wp2_with fail
                              go_roundw
                              case rel => exact ⟨a + 1, by omega, by go_num, HBw.out⟩
                              case measure => simp [intOf]; omega
                            case pos =>
                              obtain ⟨ox, hox⟩ : ∃ p, pl2[q]? = some p := ⟨_, List.getElem?_eq_getElem (by have := HM7.out; omega)⟩
                              obtain ⟨b8, o8, cs8, hA7, hbl8, _, hc8, hr8⟩ := HV8.out.at hox
                              subst hA7
                              have hr8' : cs8 = [.int .i64 ox.core, .int .i64 ox.bud, .int .i64 ox.dl, .int .i64 ox.prio, .bool ox.tight] := hr8
                              subst hr8'
                              have HY := hid (show (⟨ox, a, q⟩ : Pt) ∈ partsOf R from mem_parts.2 ⟨pl2, HPL2.out, hox⟩)
                              obtain ⟨oc, ob, od, op, ot⟩ := ox
                              simp only at hc8
                              have e0 : wr.cell? ⟨b8, o8 + q * 5, none⟩ = some (.int .i64 oc) := (HB5.out.cell (p := ⟨b8, o8 + q * 5, none⟩) hbl8).trans (by simpa using hc8 0 _ rfl)
                              have e1 : wr.cell? ⟨b8, o8 + q * 5 + 1, none⟩ = some (.int .i64 ob) := (HB5.out.cell (p := ⟨b8, o8 + q * 5 + 1, none⟩) hbl8).trans (hc8 1 _ rfl)
                              have e2 : wr.cell? ⟨b8, o8 + q * 5 + 2, none⟩ = some (.int .i64 od) := (HB5.out.cell (p := ⟨b8, o8 + q * 5 + 2, none⟩) hbl8).trans (hc8 2 _ rfl)
                              have e3 : wr.cell? ⟨b8, o8 + q * 5 + 3, none⟩ = some (.int .i64 op) := (HB5.out.cell (p := ⟨b8, o8 + q * 5 + 3, none⟩) hbl8).trans (hc8 3 _ rfl)
                              have e4 : wr.cell? ⟨b8, o8 + q * 5 + 4, none⟩ = some (.bool ot) := (HB5.out.cell (p := ⟨b8, o8 + q * 5 + 4, none⟩) hbl8).trans (hc8 4 _ rfl)
                              clear hox hbl8 hc8 hr8
                              go_upto_region 34 with fail
                              have hq8 := blk_new wr (.cells #[.int .i64 oc, .int .i64 ob, .int .i64 od, .int .i64 op, .bool ot] 41)
                              have HB8 := hid (below_new HBw.out (.cells #[.int .i64 oc, .int .i64 ob, .int .i64 od, .int .i64 op, .bool ot] 41))
                              obtain ⟨Y, hY⟩ : ∃ Y, wr.heap.size = Y := ⟨_, rfl⟩
                              rw [hY] at hq8 ⊢
                              obtain ⟨w8, hw8⟩ : ∃ w8, wr.alloc (.cells #[.int .i64 oc, .int .i64 ob, .int .i64 od, .int .i64 op, .bool ot] 41) = w8 := ⟨_, rfl⟩
                              rw [hw8] at hq8 HB8 ⊢
                              clear hw8 hY e0 e1 e2 e3 e4 g0
                              have y0 : w8.cell? ⟨Y, 0, none⟩ = some (.int .i64 oc) := blk_cell hq8 0
                              have y2 : w8.cell? ⟨Y, 2, none⟩ = some (.int .i64 od) := blk_cell hq8 2
                              have y3 : w8.cell? ⟨Y, 3, none⟩ = some (.int .i64 op) := blk_cell hq8 3
                              have y4 : w8.cell? ⟨Y, 4, none⟩ = some (.bool ot) := blk_cell hq8 4
                              have y1 := HSYV.out w8 HB8.out
                              have z2 : w8.cell? ⟨Z, 2, none⟩ = some (.int .i64 pd) := blk_cell (HQW.out w8 HB8.out) 2
                              have z3 : w8.cell? ⟨Z, 3, none⟩ = some (.int .i64 pp) := blk_cell (HQW.out w8 HB8.out) 3
                              clear hq8
                              by_cases hoc : oc = c
                              case neg =>
                                have hbo : (oc == (c : Int)) = false := beq_eq_false_iff_ne.2 hoc
                                clear hoc
                                go_wp2_with fail
                                go_roundw
                                case rel => exact ⟨q + 1, by omega, by go_num, HB8.out⟩
                                case measure => simp [intOf]; omega
                              case pos =>
                                have hbo : (oc == (c : Int)) = true := by rw [hoc]; exact beq_self_eq_true _
                                cases ot
                                case true =>
                                  clear hoc
                                  go_wp2_with fail
                                  go_roundw
                                  case rel => exact ⟨q + 1, by omega, by go_num, HB8.out⟩
                                  case measure => simp [intOf]; omega
                                case false =>
                                  by_cases hpo : S.policy = 1
                                  case neg =>
                                    have hbp : (S.policy == 1) = false := beq_eq_false_iff_ne.2 hpo
                                    clear hpo hoc
                                    go_wp2_with fail
                                    go_roundw
                                    case rel => exact ⟨q + 1, by omega, by go_num, HB8.out⟩
                                    case measure => simp [intOf]; omega
                                  case pos =>
                                    have hbp : (S.policy == 1) = true := by rw [hpo]; rfl
                                    obtain ⟨bb, hle⟩ : ∃ b, decide (od ≤ pd) = b := ⟨_, rfl⟩
                                    have hlt2 : decide (op < pp) = bb := by
                                      have h := HX.out
                                      have h2 := HY.out
                                      have h3 := HND.out
                                      rw [HR.out] at h h2 h3
                                      rw [← hle]
                                      exact prio_order hpo h3 h h2 HON.out (by unfold onc; rw [decide_eq_true hoc]; rfl) hak
                                    clear hpo hoc
                                    cases bb
                                    case true =>
                                      have ha1 : od ≤ pd := of_decide_eq_true hle
                                      have ha2 : op < pp := of_decide_eq_true hlt2
                                      go_wp2_with fail
                                      go_roundw
                                      case rel => exact ⟨q + 1, by omega, by go_num, HB8.out⟩
                                      case measure => simp [intOf]; omega
                                    case false =>
                                      have ha1 : ¬ od ≤ pd := of_decide_eq_false hle
                                      have ha2 : ¬ op < pp := of_decide_eq_false hlt2
                                      go_wp2_with fail
                                      go_roundw
                                      case rel => exact ⟨q + 1, by omega, by go_num, HB8.out⟩
                                      case measure => simp [intOf]; omega
end
end Go.Proofs.Ytppildaahmlfmaa
