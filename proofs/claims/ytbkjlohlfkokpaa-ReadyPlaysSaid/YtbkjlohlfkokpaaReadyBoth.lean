/- ReadyPlays: a deed by both queues (contracts). -/
import Derived.Test.YtbkjlohlfkokpaaReadyRel
import Derived.Test.YtbkjlohlfkokpaaReadyEx
set_option linter.unusedVariables false
set_option linter.unusedSimpArgs false
namespace Go.Proofs.Ytbkjlohlfkokpaa
open Go.RowKit Go.Maps

section
variable {w w' : World} {base x : Nat} {v : Value} {policy : Int} {L L' : List Od}
theorem r12_at_any (H : R12 w base x v policy L) (t : Int) (hn : (odT L).Nodup) (hm : L.length < 1000) : ∃ i : Int, -1 ≤ i ∧ i < 1000 ∧ Calls Try.prog 87 #[.pointer (some ⟨x, 0, none⟩), .int .i64 t] w fun e w' => e = .returned (.int .i64 i) ∧ w' = w := by
  by_cases h : t ∈ odT L
  · obtain ⟨p, hp, e⟩ := List.mem_map.1 h
    obtain ⟨j, hj⟩ := List.mem_iff_getElem?.1 hp
    have := (List.getElem?_eq_some_iff.1 hj).1
    exact ⟨j, by omega, by omega, r12_at_yes H hn hm hj e⟩
  · exact ⟨-1, by omega, by omega, r12_at_no H hm h⟩
set_option maxRecDepth 100000 in
set_option maxHeartbeats 800000 in
theorem r12_raise_arg (H : R12 w base x v policy L) {t l : Int} (h : mayB t l = false ∨ policy = 2) (hn : (odT L).Nodup) (hm : L.length < 1000) : Calls Try.prog 61 #[.pointer (some ⟨x, 0, none⟩), .int .i64 t, .int .i64 l] w fun e w' => e = .returned (.int .i64 1) ∧ w' = w := by
  obtain ⟨i, hi0, hi1, hc⟩ := r12_at_any H t hn hm
  have HC := hid hc
  have HY := hid (r12_may (w := w) t l)
  have c0 : w.cell? ⟨x, 0, none⟩ = some (.int .i64 policy) := blk_cell H.hx 0
  clear H hn hm hc
  go_enter Try.func61, Try.ntmps61
  go_wp2_with fail
  refine HC.out.mono ?_
  rintro e w1 ⟨rfl, hw⟩
  obtain rfl := hw.symm
  go_wp2_with fail
  refine HY.out.mono ?_
  rintro e w1 ⟨rfl, hw⟩
  obtain rfl := hw.symm
  cases hb : mayB t l with
  | false =>
    clear h hb
    go_wp2_with fail
    go_ret
    exact ⟨rfl, rfl⟩
  | true =>
    have : policy = 2 := h.resolve_left (by rw [hb]; decide)
    subst this
    clear h hb
    go_wp2_with fail
    go_ret
    exact ⟨rfl, rfl⟩
set_option maxRecDepth 100000 in
set_option maxHeartbeats 800000 in
theorem r12_raise_no (H : R12 w base x v policy L) {t l : Int} (hpo : policy ≠ 2) (hmay : mayB t l = true) (hm : L.length < 1000) (h : t ∉ odT L) : Calls Try.prog 61 #[.pointer (some ⟨x, 0, none⟩), .int .i64 t, .int .i64 l] w fun e w' => e = .returned (.int .i64 5) ∧ w' = w := by
  have HC := hid (r12_at_no H hm h)
  have HY := hid (r12_may (w := w) t l)
  rw [hmay] at HY
  have hpe : (policy == 2) = false := beq_eq_false_iff_ne.2 hpo
  have c0 : w.cell? ⟨x, 0, none⟩ = some (.int .i64 policy) := blk_cell H.hx 0
  clear H hm h hpo hmay
  go_enter Try.func61, Try.ntmps61
  go_wp2_with fail
  refine HC.out.mono ?_
  rintro e w1 ⟨rfl, hw⟩
  obtain rfl := hw.symm
  go_wp2_with fail
  refine HY.out.mono ?_
  rintro e w1 ⟨rfl, hw⟩
  obtain rfl := hw.symm
  go_wp2_with fail
  go_ret
  exact ⟨rfl, rfl⟩
end
/-- A deed by both queues, with one answer. -/
structure BothQ (F G : FuncId) (qargs : List Value) (policy : Int) (f : Int → Option Rk) (L : List (Int × Int)) (M : List Od) (r : Int) (f' : Int → Option Rk) (L' : List (Int × Int)) (M' : List Od) : Prop where
  a : ∀ (W : World) (B q : Nat) (Q : Nat → Prop) (T : Nat), T < 1000 → IsQ W B q Q policy T f L → Calls Try.prog F (#[.pointer (some ⟨q, 0, none⟩)] ++ qargs.toArray) W fun e w' => e = .returned (.int .i64 r) ∧ QBehind W B q Q policy (T + 1) f' L' w'
  b : ∀ (W : World) (B x : Nat) (v : Value), R12 W B x v policy M → Calls Try.prog G (#[.pointer (some ⟨x, 0, none⟩)] ++ qargs.toArray) W fun e w' => e = .returned (.int .i64 r) ∧ R12Behind W B x v policy M' w'
  s : Same f' M'
/-- What holds of the lists. -/
structure QOk (f : Int → Option Rk) (L : List (Int × Int)) (M : List Od) : Prop where
  inv : RqInv f L
  nd : (fsts L).Nodup
  so : L.Pairwise (fun p q => p.2 ≤ q.2)
  len : L.length ≤ 24
  same : Same f M
section
variable {policy : Int} {f : Int → Option Rk} {L : List (Int × Int)} {M : List Od} {t l : Int}
theorem QOk.mlen (H : QOk f L M) : M.length ≤ 24 := by rw [same_len H.same H.inv H.nd]; exact H.len
theorem QOk.mok (H : QOk f L M) : ∀ p ∈ M, 0 ≤ p.t ∧ p.t < 24 := same_ok H.same H.inv
theorem QOk.mem (H : QOk f L M) : t ∈ fsts L ↔ t ∈ odT M := by
  rw [same_in H.same]
  constructor
  · intro h
    obtain ⟨r, h1, _⟩ := H.inv.in_ h
    rw [h1]
    rfl
  · intro h
    by_cases hin : t ∈ fsts L
    · exact hin
    · rw [H.inv.out hin] at h
      cases h
theorem QOk.get (H : QOk f L M) (h : t ∈ odT M) : ∃ (j : Nat) (p : Od), M[j]? = some p ∧ p.t = t ∧ f t = some p.r := by
  obtain ⟨p, hp, e⟩ := List.mem_map.1 h
  obtain ⟨j, hj⟩ := List.mem_iff_getElem?.1 hp
  exact ⟨j, p, hj, e, by rw [← e]; exact H.same.fwd p hp⟩
theorem QOk.none (H : QOk f L M) (h : t ∉ odT M) : f t = none := same_none H.same h
theorem both_add (H : QOk f L M) (hl : l ≤ 9223372036854775807) :
    ∃ r f' L' M', BothQ 51 60 [.int .i64 t, .int .i64 l] policy f L M r f' L' M' := by
  have hml := H.mlen
  cases hm : mayB t l with
  | false =>
    refine ⟨1, f, L, M, fun W B q Q T hT hq => ?_, fun W B x v hr => ?_, H.same⟩
    · refine (q_add_arg hq hl hm).mono ?_
      rintro e w' ⟨rfl, rfl⟩
      exact ⟨rfl, hq.behind (Below.refl _ _) (by omega)⟩
    · refine (r12_add_arg hr hm).mono ?_
      rintro e w' ⟨rfl, rfl⟩
      exact ⟨rfl, hr.behind⟩
  | true =>
    by_cases hin : t ∈ fsts L
    · obtain ⟨j, p, hj, hp, _⟩ := H.get (H.mem.1 hin)
      refine ⟨4, f, L, M, fun W B q Q T hT hq => q_add_old hq hm (by omega) hin, fun W B x v hr => ?_, H.same⟩
      refine (r12_add_old hr hm H.same.nd (by omega) hj hp).mono ?_
      rintro e w' ⟨rfl, rfl⟩
      exact ⟨rfl, hr.behind⟩
    · have hin2 : t ∉ odT M := fun h => hin (H.mem.2 h)
      exact ⟨0, addF f t l, insP (t, Rk.key ⟨l, 0, false⟩ t) L, M ++ [Od.mk t (Rk.mk l 0 false)], fun W B q Q T hT hq => q_add_new hq hm (by omega) hin rfl, fun W B x v hr => r12_add hr hm (by omega) hin2, same_add H.same hin2⟩
theorem upF_none (h : f t = none) (g : Rk → Rk) : upF f t g = f := by
  funext s
  unfold upF
  by_cases e : s = t
  · rw [if_pos e, e, h]; rfl
  · rw [if_neg e]
theorem both_raise (H : QOk f L M) (hl : l ≤ 9223372036854775807) :
    ∃ r f' L' M', BothQ 54 61 [.int .i64 t, .int .i64 l] policy f L M r f' L' M' := by
  have hml := H.mlen
  by_cases hm : mayB t l = false ∨ policy = 2
  · refine ⟨1, f, L, M, fun W B q Q T hT hq => ?_, fun W B x v hr => ?_, H.same⟩
    · refine (q_raise_arg hq hl hm).mono ?_
      rintro e w' ⟨rfl, hb⟩
      exact ⟨rfl, hq.behind hb (by omega)⟩
    · refine (r12_raise_arg hr hm H.same.nd (by omega)).mono ?_
      rintro e w' ⟨rfl, rfl⟩
      exact ⟨rfl, hr.behind⟩
  · have hm1 : mayB t l = true := by
      cases e : mayB t l with
      | false => exact absurd (.inl e) hm
      | true => rfl
    have hp2 : policy ≠ 2 := fun e => hm (.inr e)
    by_cases hin : t ∈ odT M
    · obtain ⟨j, p, hj, hp, hf⟩ := H.get hin
      refine ⟨0, upF f t (raiseR l), upL f L t (raiseR l), M.set j ⟨p.t, raiseR l p.r⟩, fun W B q Q T hT hq => ?_, fun W B x v hr => r12_raise hr hp2 hm1 H.same.nd (by omega) hj hp, ?_⟩
      · have := q_raise hq hp2 hm1 (by omega)
        rw [show upE f t = 0 by unfold upE; rw [hf]] at this
        exact this
      · rw [← hp]
        exact same_set H.same hj (raiseR l)
    · have hf := H.none hin
      refine ⟨5, f, L, M, fun W B q Q T hT hq => ?_, fun W B x v hr => ?_, H.same⟩
      · have := q_raise hq hp2 hm1 (by omega)
        rw [show upE f t = 5 by unfold upE; rw [hf], upF_none hf, show upL f L t (raiseR l) = L by unfold upL; rw [hf]] at this
        exact this
      · refine (r12_raise_no hr hp2 hm1 (by omega) hin).mono ?_
        rintro e w' ⟨rfl, rfl⟩
        exact ⟨rfl, hr.behind⟩
theorem both_fall (H : QOk f L M) (ht : -9223372036854775808 ≤ t ∧ t ≤ 9223372036854775807) :
    ∃ r f' L' M', BothQ 56 62 [.int .i64 t] policy f L M r f' L' M' := by
  have hml := H.mlen
  by_cases hin : t ∈ odT M
  · obtain ⟨j, p, hj, hp, hf⟩ := H.get hin
    refine ⟨0, upF f t fallR, upL f L t fallR, M.set j ⟨p.t, fallR p.r⟩, fun W B q Q T hT hq => ?_, fun W B x v hr => r12_fall hr H.same.nd (by omega) hj hp, ?_⟩
    · have := q_fall hq ht (by omega)
      rw [show upE f t = 0 by unfold upE; rw [hf]] at this
      exact this
    · rw [← hp]
      exact same_set H.same hj fallR
  · have hf := H.none hin
    refine ⟨5, f, L, M, fun W B q Q T hT hq => ?_, fun W B x v hr => ?_, H.same⟩
    · have := q_fall hq ht (by omega)
      rw [show upE f t = 5 by unfold upE; rw [hf], upF_none hf, show upL f L t fallR = L by unfold upL; rw [hf]] at this
      exact this
    · refine (r12_fall_no hr (by omega) hin).mono ?_
      rintro e w' ⟨rfl, rfl⟩
      exact ⟨rfl, hr.behind⟩
theorem both_remove (H : QOk f L M) (ht : -9223372036854775808 ≤ t ∧ t ≤ 9223372036854775807) :
    ∃ r f' L' M', BothQ 58 63 [.int .i64 t] policy f L M r f' L' M' := by
  have hml := H.mlen
  by_cases hin : t ∈ odT M
  · obtain ⟨j, p, hj, hp, hf⟩ := H.get hin
    refine ⟨0, fun s => if s = t then none else f s, offP t L, M.eraseIdx j, fun W B q Q T hT hq => ?_, fun W B x v hr => r12_remove hr H.same.nd (by omega) hj hp, ?_⟩
    · have := q_remove hq ht (by omega)
      rw [if_pos (H.mem.2 hin)] at this
      exact this
    · rw [← hp]
      exact same_erase H.same hj
  · have hf := H.none hin
    refine ⟨5, f, L, M, fun W B q Q T hT hq => ?_, fun W B x v hr => ?_, H.same⟩
    · have := q_remove hq ht (by omega)
      have e1 : (fun s => if s = t then none else f s) = f := by
        funext s
        by_cases e : s = t
        · rw [if_pos e, e, hf]
        · rw [if_neg e]
      rw [if_neg (fun h => hin (H.mem.1 h)), offP_out (fun h => hin (H.mem.1 h)), e1] at this
      exact this
    · refine (r12_remove_no hr (by omega) hin).mono ?_
      rintro e w' ⟨rfl, rfl⟩
      exact ⟨rfl, hr.behind⟩
/-- The level, by both. -/
theorem both_level (H : QOk f L M) (ht : -9223372036854775808 ≤ t ∧ t ≤ 9223372036854775807) : ∃ (n : Int) (b : Bool),
    (∀ (W : World) (B q : Nat) (Q : Nat → Prop) (T : Nat), IsQ W B q Q policy T f L → Calls Try.prog 55 #[.pointer (some ⟨q, 0, none⟩), .int .i64 t] W fun e w' => e = .returned (.tuple #[.int .i64 n, .bool b]) ∧ Below W.heap.size W w') ∧
    (∀ (W : World) (B x : Nat) (v : Value), R12 W B x v policy M → Calls Try.prog 64 #[.pointer (some ⟨x, 0, none⟩), .int .i64 t] W fun e w' => e = .returned (.tuple #[.int .i64 n, .bool b]) ∧ Below W.heap.size W w') := by
  have hml := H.mlen
  refine ⟨((f t).getD Rk.zero).level, (f t).isSome, fun W B q Q T hq => q_level hq ht, fun W B x v hr => ?_⟩
  by_cases hin : t ∈ odT M
  · obtain ⟨j, p, hj, hp, hf⟩ := H.get hin
    rw [hf]
    exact r12_level hr H.same.nd (by omega) hj hp
  · rw [H.none hin]
    refine (r12_level_no hr (by omega) hin).mono ?_
    rintro e w' ⟨rfl, rfl⟩
    exact ⟨rfl, Below.refl _ _⟩
end
/-- Both queues behind a call's start. -/
structure QR (w wx : World) (q : Nat) (Q : Nat → Prop) (T x : Nat) (v : Value) (policy : Int) (f : Int → Option Rk) (L : List (Int × Int)) (M : List Od) : Prop where
  below : Below w.heap.size w wx
  q : IsQ wx w.heap.size q Q policy T f L
  ref : R12 wx w.heap.size x v policy M
  apart : ∀ k, Q k → ¬ R12Set x v k
  same : Same f M
section
variable {w wx w' : World} {q T T' x : Nat} {Q : Nat → Prop} {v : Value} {policy r : Int} {f f' : Int → Option Rk} {L L' : List (Int × Int)} {M M' : List Od} {F G : FuncId} {qargs : List Value}
theorem QR.ok (H : QR w wx q Q T x v policy f L M) : QOk f L M := ⟨H.q.inv, H.q.facts.1, H.q.facts.2.1, H.q.facts.2.2, H.same⟩
theorem QR.later (H : QR w wx q Q T x v policy f L M) (hb : Below wx.heap.size wx w') : QR w w' q Q T x v policy f L M := ⟨below_then H.below hb, H.q.later hb, H.ref.later hb, H.apart, H.same⟩
theorem QR.more (H : QR w wx q Q T x v policy f L M) (hT : T ≤ T') : QR w wx q Q T' x v policy f L M := ⟨H.below, H.q.more hT, H.ref, H.apart, H.same⟩
/-- In the midst of a deed: the queue has done it, the document's has not. -/
structure QRM (w wx : World) (q : Nat) (Q : Nat → Prop) (T x : Nat) (v : Value) (policy : Int) (f : Int → Option Rk) (L : List (Int × Int)) (M : List Od) : Prop where
  below : Below w.heap.size w wx
  q : IsQ wx w.heap.size q Q policy T f L
  ref : R12 wx w.heap.size x v policy M
  apart : ∀ k, Q k → ¬ R12Set x v k
/-- A block beside both. -/
structure BsdQ (wx : World) (D : Nat) (o : Obj) (Q : Nat → Prop) (x : Nat) (v : Value) : Prop where
  blk : wx.heap[D]? = some o
  ni : ¬ Q D
  nx : ¬ R12Set x v D
theorem BsdQ.later {D : Nat} {o : Obj} (H : BsdQ wx D o Q x v) (hb : Below wx.heap.size wx w') : BsdQ w' D o Q x v := ⟨(fr0 hb).blk H.blk (fun h => h), H.ni, H.nx⟩
theorem QR.beside (H : QR w wx q Q T x v policy f L M) (o : Obj) : QR w (wx.alloc o) q Q T x v policy f L M ∧ BsdQ (wx.alloc o) wx.heap.size o Q x v := by
  refine ⟨H.later ((Below.refl _ _).alloc (Nat.le_refl _) _), ⟨blk_new _ _, fun e => ?_, fun e => ?_⟩⟩
  · have := (H.q.lt _ e).2; omega
  · have := (H.ref.lt _ e).2; omega
theorem QR.stepQ (H : QR w wx q Q T x v policy f L M) (hB : QBehind wx w.heap.size q Q policy T' f' L' w') :
    ∃ Q', QRM w w' q Q' T' x v policy f' L' M ∧ ∀ D o, BsdQ wx D o Q x v → BsdQ w' D o Q' x v := by
  obtain ⟨Q', hI, hF, hN⟩ := hB
  refine ⟨Q', ⟨((Fr.of_below (S := NoB) H.below).trans hF (fun k hk => .inr (H.q.lt k hk).1)).no, hI, H.ref.kept hF (fun k hk e => H.apart k e hk), fun k hk e => ?_⟩, fun D o hD => ⟨hF.blk hD.blk hD.ni, fun e => (hN D e).elim hD.ni (fun h => by have := blk_lt hD.blk; omega), hD.nx⟩⟩
  have := (H.ref.lt k e).2
  exact (hN k hk).elim (fun h => H.apart k h e) (fun h => by omega)
theorem QRM.stepR (H : QRM w wx q Q T x v policy f L M) (hB : R12Behind wx w.heap.size x v policy M' w') (hs : Same f M') :
    ∃ v', QR w w' q Q T x v' policy f L M' ∧ ∀ D o, BsdQ wx D o Q x v → BsdQ w' D o Q x v' := by
  obtain ⟨v', hR, hF, hN⟩ := hB
  refine ⟨v', ⟨((Fr.of_below (S := NoB) H.below).trans hF (fun k hk => .inr (H.ref.lt k hk).1)).no, H.q.kept hF H.apart, hR, fun k hk e => ?_, hs⟩, fun D o hD => ⟨hF.blk hD.blk hD.nx, hD.ni, fun e => (hN D e).elim hD.nx (fun h => by have := blk_lt hD.blk; omega)⟩⟩
  have := (H.q.lt k hk).2
  exact (hN k e).elim (H.apart k hk) (fun h => by omega)
theorem QR.callA {D : Nat} {o : Obj} (H : QR w wx q Q T x v policy f L M) (hD : BsdQ wx D o Q x v) (hB : BothQ F G qargs policy f L M r f' L' M') (hT : T < 1000) :
    Calls Try.prog F (#[.pointer (some ⟨q, 0, none⟩)] ++ qargs.toArray) wx fun e w' => e = .returned (.int .i64 r) ∧ ∃ Q', QRM w w' q Q' (T + 1) x v policy f' L' M ∧ BsdQ w' D o Q' x v := by
  refine (hB.a _ _ _ _ _ hT H.q).mono ?_
  rintro e w' ⟨rfl, hb⟩
  obtain ⟨Q', h1, h2⟩ := H.stepQ hb
  exact ⟨rfl, Q', h1, h2 _ _ hD⟩
theorem QRM.callB {D : Nat} {o : Obj} (H : QRM w wx q Q T x v policy f' L' M) (hD : BsdQ wx D o Q x v) (hB : BothQ F G qargs policy f L M r f' L' M') :
    Calls Try.prog G (#[.pointer (some ⟨x, 0, none⟩)] ++ qargs.toArray) wx fun e w' => e = .returned (.int .i64 r) ∧ ∃ v', QR w w' q Q T x v' policy f' L' M' ∧ BsdQ w' D o Q x v' := by
  refine (hB.b _ _ _ _ H.ref).mono ?_
  rintro e w' ⟨rfl, hb⟩
  obtain ⟨v', h1, h2⟩ := H.stepR hb hB.s
  exact ⟨rfl, v', h1, h2 _ _ hD⟩
end
end Go.Proofs.Ytbkjlohlfkokpaa
