/- Package ready: the queue: Fall, Raise; the statements of chapter 12: pick, numbers (contracts); a queue behind a call's start. -/
import Derived.Test.YtbkjlohlfkokpaaQueue2
set_option linter.unusedVariables false
set_option linter.unusedSimpArgs false
namespace Go.Proofs.Ytbkjlohlfkokpaa
open Go.RowKit Go.Maps

def fallR (r : Rk) : Rk := ⟨r.own, r.up, false⟩
def raiseR (l : Int) (r : Rk) : Rk := ⟨r.own, l, true⟩
/-- What a move leaves. -/
def upF (f : Int → Option Rk) (t : Int) (g : Rk → Rk) : Int → Option Rk := fun s => if s = t then (f t).map g else f s
def upL (f : Int → Option Rk) (L : List (Int × Int)) (t : Int) (g : Rk → Rk) : List (Int × Int) := match f t with
  | none => L
  | some r => insP (t, (g r).key t) (offP t L)
def upE (f : Int → Option Rk) (t : Int) : Int := match f t with
  | none => 5
  | some _ => 0
section
variable {w w' W : World} {base q h bm n : Nat} {policy : Int} {Qh Q : Nat → Prop} {T T' : Nat} {f : Int → Option Rk} {L L' : List (Int × Int)}
theorem QBehind.from (H : QBehind W base q Q policy T f L w') (k : Below w.heap.size w W) : QBehind w base q Q policy T f L w' := by
  obtain ⟨Q', h1, h2, h3⟩ := H
  exact ⟨Q', h1, (Fr.of_below k).trans h2 (fun _ h => .inl h), fun j hj => (h3 j hj).imp id (fun h => Nat.le_trans k.size h)⟩
set_option maxRecDepth 100000 in
theorem move_no (H : QAt w base q h bm n policy Qh T f L) {t : Int} (ht : -9223372036854775808 ≤ t ∧ t ≤ 9223372036854775807) (hf : f t = none) (fv : Value) :
    Calls Try.prog 82 #[.pointer (some ⟨q, 0, none⟩), .int .i64 t, fv] w fun e w' => e = .returned (.int .i64 5) ∧ Below w.heap.size w w' := by
  have c2 : w.cell? ⟨q, 2, none⟩ = some (.map (some bm)) := blk_cell H.hx 2
  have HM := hid H.map
  have HW := hid (wfI ht.1 ht.2)
  have HF := hid hf
  have HB0 := hid ((Below.refl w.heap.size w).alloc (Nat.le_refl _) (.cells #[.int .i64 0, .int .i64 0, .bool false] 117))
  clear H hf ht
  go_enter Try.func82, Try.ntmps82
  go_wp2_with (at_lookup; refine wp_rlook_ok rfl _ _ _ rfl Try.underlying112 HM.out rfl t rfl HW.out ?_; rw [HF.out]; simp only [Option.getD_none, Option.isSome_none]; unfold rkV Rk.zero)
  go_ret
  exact ⟨rfl, HB0.out⟩
theorem q_fall (H : IsQ w base q Q policy T f L) {t : Int} (ht : -9223372036854775808 ≤ t ∧ t ≤ 9223372036854775807) (hT : T < 10000) :
    Calls Try.prog 56 #[.pointer (some ⟨q, 0, none⟩), .int .i64 t] w fun e w' => e = .returned (.int .i64 (upE f t)) ∧ QBehind w base q Q policy (T + 1) (upF f t fallR) (upL f L t fallR) w' := by
  obtain ⟨h, bm, n, Qh, H, rfl⟩ := H
  cases hf : f t with
  | none =>
    have e1 : upE f t = 5 := by unfold upE; rw [hf]
    have e2 : upL f L t fallR = L := by unfold upL; rw [hf]
    have e3 : upF f t fallR = f := funext fun s => by
      unfold upF
      by_cases e : s = t
      · rw [if_pos e, e, hf]; rfl
      · rw [if_neg e]
    rw [e1, e2, e3]
    have HMV := hid (move_no H ht hf (.func (.func 85) #[] #[]))
    have HI := hid (show IsQ w base q (QSet q bm Qh) policy T f L from ⟨h, bm, n, Qh, H, rfl⟩)
    clear H hf e1 e2 e3 ht
    go_enter Try.func56, Try.ntmps56
    go_wp2_with fail
    refine HMV.out.mono ?_
    rintro e w1 ⟨rfl, hb⟩
    have HB := hid hb
    clear hb
    go_wp2_with fail
    go_ret
    exact ⟨rfl, HI.out.behind HB.out (by omega)⟩
  | some r =>
    obtain ⟨o0, u0, ra0⟩ := r
    have e1 : upE f t = 0 := by unfold upE; rw [hf]
    have e2 : upL f L t fallR = insP (t, Rk.key ⟨o0, u0, false⟩ t) (offP t L) := by unfold upL; rw [hf]; rfl
    have e3 : upF f t fallR = fun s => if s = t then some ⟨o0, u0, false⟩ else f s := funext fun s => by unfold upF; rw [hf]; rfl
    rw [e1, e2, e3]
    have HMV := hid (move_fall H hf hT)
    clear H hf e1 e2 e3 ht
    go_enter Try.func56, Try.ntmps56
    go_wp2_with fail
    refine HMV.out.mono ?_
    rintro e w1 ⟨rfl, hb⟩
    have HB := hid hb
    clear hb
    go_wp2_with fail
    go_ret
    exact ⟨rfl, HB.out⟩
theorem q_raise_arg (H : IsQ w base q Q policy T f L) {t l : Int} (hl : l ≤ 9223372036854775807) (hm : mayB t l = false ∨ policy = 2) :
    Calls Try.prog 54 #[.pointer (some ⟨q, 0, none⟩), .int .i64 t, .int .i64 l] w fun e w' => e = .returned (.int .i64 1) ∧ Below w.heap.size w w' := by
  obtain ⟨h, bm, n, Qh, H, rfl⟩ := H
  have hb := (Below.refl w.heap.size w).alloc (Nat.le_refl _) (.cells #[.int .i64 l] 3)
  have HB := hid hb
  have c0 : (w.alloc (.cells #[.int .i64 l] 3)).cell? ⟨q, 0, none⟩ = some (.int .i64 policy) := blk_cell (H.later hb).hx 0
  have HMY := hid (ready_may (w := w.alloc (.cells #[.int .i64 l] 3)) t l hl)
  obtain ⟨b, hbm⟩ : ∃ b, mayB t l = b := ⟨_, rfl⟩
  rw [hbm] at hm HMY
  clear H hbm hb
  cases b
  · clear hm c0
    go_enter Try.func54, Try.ntmps54
    go_wp2_with fail
    refine HMY.out.mono ?_
    rintro e w0 ⟨rfl, rfl⟩
    go_wp2_with fail
    go_ret
    exact ⟨rfl, HB.out⟩
  · obtain rfl : policy = 2 := hm.resolve_left (by simp)
    clear hm
    go_enter Try.func54, Try.ntmps54
    go_wp2_with fail
    refine HMY.out.mono ?_
    rintro e w0 ⟨rfl, rfl⟩
    go_wp2_with fail
    go_ret
    exact ⟨rfl, HB.out⟩
set_option maxHeartbeats 400000 in
theorem q_raise (H : IsQ w base q Q policy T f L) {t l : Int} (hp : policy ≠ 2) (hm : mayB t l = true) (hT : T < 10000) :
    Calls Try.prog 54 #[.pointer (some ⟨q, 0, none⟩), .int .i64 t, .int .i64 l] w fun e w' => e = .returned (.int .i64 (upE f t)) ∧ QBehind w base q Q policy (T + 1) (upF f t (raiseR l)) (upL f L t (raiseR l)) w' := by
  obtain ⟨h, bm, n, Qh, H, rfl⟩ := H
  have hm2 : 0 ≤ t ∧ t < 24 ∧ 0 ≤ l ∧ l < 9007199254740992 := by
    have := hm
    unfold mayB at this
    exact of_decide_eq_true this
  have hb := (Below.refl w.heap.size w).alloc (Nat.le_refl _) (.cells #[.int .i64 l] 3)
  have HB := hid hb
  have H1 := H.later hb
  have c0 : (w.alloc (.cells #[.int .i64 l] 3)).cell? ⟨q, 0, none⟩ = some (.int .i64 policy) := blk_cell H1.hx 0
  have hc : (w.alloc (.cells #[.int .i64 l] 3)).cell? ⟨w.heap.size, 0, none⟩ = some (.int .i64 l) := blk_cell (blk_new w _) 0
  have HMY := hid (ready_may (w := w.alloc (.cells #[.int .i64 l] 3)) t l (by omega))
  rw [hm] at HMY
  have hpe : (policy == 2) = false := beq_eq_false_iff_ne.2 hp
  have hmf : ∀ (fn : Fn) (first cap : Array Value) (w : World), (Instr.makeFunc fn first cap).run Try.prog w = .ok (.func fn first cap) w := fun _ _ _ _ => rfl
  cases hf : f t with
  | none =>
    have e1 : upE f t = 5 := by unfold upE; rw [hf]
    have e2 : upL f L t (raiseR l) = L := by unfold upL; rw [hf]
    have e3 : upF f t (raiseR l) = f := funext fun s => by
      unfold upF
      by_cases e : s = t
      · rw [if_pos e, e, hf]; rfl
      · rw [if_neg e]
    rw [e1, e2, e3]
    have HMV := hid (move_no H1 (by omega) hf (.func (.func 83) #[] #[.pointer (some ⟨w.heap.size, 0, none⟩)]))
    have HI := hid (show IsQ w base q (QSet q bm Qh) policy T f L from ⟨h, bm, n, Qh, H, rfl⟩)
    clear H H1 hf e1 e2 e3 hm hb hm2 hp
    go_enter Try.func54, Try.ntmps54
    go_wp2_with fail
    refine HMY.out.mono ?_
    rintro e w0 ⟨rfl, rfl⟩
    go_wp2_with fail
    refine HMV.out.mono ?_
    rintro e w1 ⟨rfl, hb⟩
    have HB2 := hid (below_then HB.out hb)
    clear hb
    go_wp2_with fail
    go_ret
    exact ⟨rfl, HI.out.behind HB2.out (by omega)⟩
  | some r =>
    obtain ⟨o0, u0, ra0⟩ := r
    have e1 : upE f t = 0 := by unfold upE; rw [hf]
    have e2 : upL f L t (raiseR l) = insP (t, Rk.key ⟨o0, l, true⟩ t) (offP t L) := by unfold upL; rw [hf]; rfl
    have e3 : upF f t (raiseR l) = fun s => if s = t then some ⟨o0, l, true⟩ else f s := funext fun s => by unfold upF; rw [hf]; rfl
    rw [e1, e2, e3]
    have HMV := hid (move_raise H1 hf hT hc hm2.2.2)
    clear H H1 hf e1 e2 e3 hm hb hm2 hp hc
    go_enter Try.func54, Try.ntmps54
    go_wp2_with fail
    refine HMY.out.mono ?_
    rintro e w0 ⟨rfl, rfl⟩
    go_wp2_with fail
    refine HMV.out.mono ?_
    rintro e w1 ⟨rfl, hb⟩
    have HB2 := hid (hb.from HB.out)
    clear hb
    go_wp2_with fail
    go_ret
    exact ⟨rfl, HB2.out⟩
end
theorem readypick_any {w : World} (c n : Int) (h0 : -9223372036854775808 ≤ c) (h1 : c ≤ 9223372036854775807) (hn : 0 < n) (hn2 : n ≤ 1125899906842624) :
    Calls Try.prog 50 #[.int .i64 c, .int .i64 n] w fun e w' => e = .returned (.int .i64 (pickN c n)) ∧ w' = w := by
  have hn0 : (n == 0) = false := beq_eq_false_iff_ne.2 (by omega)
  have hn1 : (n == -1) = false := beq_eq_false_iff_ne.2 (by omega)
  by_cases h : c < 0
  · have e := hid (show pickN c n = -((c + 1).tmod n) by unfold pickN; rw [if_pos h, ← Int.neg_tmod, Int.tmod_eq_emod_of_nonneg (by omega)])
    go_enter Try.func50, Try.ntmps50
    go_wp2
    go_ret
    exact ⟨ret_eq (by rw [e.out]; rfl), rfl⟩
  · have e := hid (show pickN c n = c % n by unfold pickN; rw [if_neg h])
    go_enter Try.func50, Try.ntmps50
    go_wp2
    go_ret
    exact ⟨ret_eq (by rw [e.out]; rfl), rfl⟩
set_option maxHeartbeats 400000 in
theorem readynumbers_same {w : World} (A B : Option Addr) (n ca cb : Nat) (L : List Int) (hn : n = L.length) (hA : Holds w A L) (hB : Holds w B L) (hm : n < 4611686018427387904) :
    Calls Try.prog 57 #[.slice A n ca, .slice B n cb] w fun e w' => e = .returned (.bool true) ∧ ∃ q, w' = w.drewN q := by
  have HA := hid hA
  have HB := hid hB
  have HN := hid hn
  clear hA hB hn
  go_enter Try.func57, Try.ntmps57
  go_wp2_with fail
  go_loopw [5] (fun i wr => ∃ k q : Nat, k ≤ n ∧ i = .int .i64 k ∧ wr = w.drewN q) (fun i _ => n - (intOf i).toNat)
  case atStart => exact ⟨0, 0, by omega, rfl, rfl⟩
  case round =>
    obtain ⟨k, q, hk, rfl, rfl⟩ := hrel
    by_cases hlt : k < n
    · obtain ⟨x, hx⟩ : ∃ x, L[k]? = some x := ⟨_, List.getElem?_eq_getElem (by have := HN.out; omega)⟩
      obtain ⟨ba, oa, rfl, ca1⟩ := HA.out k x hx
      obtain ⟨bb, ob, rfl, cb1⟩ := HB.out k x hx
      clear hx
      go_wp2_with fail
      go_quiet (fail)
      go_wp2_with fail
      go_roundw
      case rel => exact ⟨k + 1, _, by omega, by go_num, rfl⟩
      case measure => simp [intOf]; omega
    · go_wp2_with fail
      go_ret
      exact ⟨rfl, _, rfl⟩
/-- A queue behind a call's start. -/
structure QW (w wx : World) (q : Nat) (Q : Nat → Prop) (policy : Int) (T : Nat) (f : Int → Option Rk) (L : List (Int × Int)) : Prop where
  below : Below w.heap.size w wx
  q : IsQ wx w.heap.size q Q policy T f L
section
variable {w wx w' : World} {q T T' : Nat} {Q : Nat → Prop} {policy : Int} {f f' : Int → Option Rk} {L L' : List (Int × Int)}
theorem QW.later (H : QW w wx q Q policy T f L) (k : Below wx.heap.size wx w') : QW w w' q Q policy T f L := ⟨below_then H.below k, H.q.later k⟩
theorem QW.more (H : QW w wx q Q policy T f L) (hT : T ≤ T') : QW w wx q Q policy T' f L := ⟨H.below, H.q.more hT⟩
theorem QW.step (H : QW w wx q Q policy T f L) (hB : QBehind wx w.heap.size q Q policy T' f' L' w') : ∃ Q', QW w w' q Q' policy T' f' L' ∧ ∀ D o, wx.heap[D]? = some o → ¬ Q D → w'.heap[D]? = some o ∧ ¬ Q' D := by
  obtain ⟨Q', hI, hF, hN⟩ := hB
  refine ⟨Q', ⟨((Fr.of_below (S := NoB) H.below).trans hF (fun k hk => .inr (H.q.lt k hk).1)).no, hI⟩, fun D o hD hn => ⟨hF.blk hD hn, fun e => (hN D e).elim hn (fun h => by have := blk_lt hD; omega)⟩⟩
theorem QW.kept {P : Nat → Prop} (H : QW w wx q Q policy T f L) (k : Fr P wx w') (hn : ∀ j, Q j → ¬ P j) (hlo : ∀ j, P j → w.heap.size ≤ j) : QW w w' q Q policy T f L :=
  ⟨((Fr.of_below (S := NoB) H.below).trans k (fun j hj => .inr (hlo j hj))).no, H.q.kept k hn⟩
end
end Go.Proofs.Ytbkjlohlfkokpaa
