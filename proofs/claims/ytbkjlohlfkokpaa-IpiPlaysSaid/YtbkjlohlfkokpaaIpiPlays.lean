/- IpiPlays: boxes do, deed by deed, just what the document's boxes do: the walk. Whatever cores, whatever deeds. -/
import Derived.Test.YtbkjlohlfkokpaaIpiOncePlain
import Derived.Test.YtbkjlohlfkokpaaRef10c
set_option linter.unusedVariables false
set_option linter.unusedSimpArgs false
namespace Go.Proofs.Ytbkjlohlfkokpaa
open Go.RowKit

theorem wp_region_class {P : Program} {C : World → Prop} {id : Nat} {Q : Exit → Act → World → Prop} {a : Act} {w : World} {l : List Oper} (hm : P.follows .mixedOrders = true) (hB : Region.lexB .any l.toArray = true) (hC : C w.drew)
    (h : wpQuiet P l.toArray C (fun a' => ∀ w', C w' → Q .normal a' w') l a) : (Code.region id l.toArray true).wp P Q a w :=
  wp_region_quiet (C := C) hm hB hC (by simpa using h)
/-! The two lists -/
def trip (y : Nt) : Nd := (y.c, y.t, y.d)
def trips (S : List Nt) : List Nd := S.map trip
theorem due_trips : ∀ (S : List Nt) (c t : Int), dueL (trips S) c t = dueF (fS S) (c, t)
  | [], _, _ => rfl
  | y :: S, c, t => by
    have ih := due_trips S c t
    unfold trips at ih ⊢
    rw [List.map_cons]
    unfold dueL
    unfold dueF fS at ih ⊢
    by_cases h : y.c = c ∧ y.t = t
    · have hk : y.key = (c, t) := by unfold Nt.key; rw [h.1, h.2]
      show (if y.c = c ∧ y.t = t then y.d else dueL (List.map trip S) c t) = _
      rw [if_pos h, List.find?_cons_of_pos (by simpa using hk)]
      rfl
    · have hk : ¬ y.key = (c, t) := fun e => h (by unfold Nt.key at e; injection e with e1 e2; exact ⟨e1, e2⟩)
      show (if y.c = c ∧ y.t = t then y.d else dueL (List.map trip S) c t) = _
      rw [if_neg h, List.find?_cons_of_neg (by simpa using hk)]
      exact ih
theorem send_trips {cores T : Int} {S : List Nt} (hi : NtInv cores T S) (c t now : Int) : sendL cores (trips S) c t now ↔ sendOk cores S c t now := by
  unfold sendL sendOk
  rw [due_trips]
  have : dueF (fS S) (c, t) < 0 ↔ fS S (c, t) = none := by
    unfold dueF
    cases e : fS S (c, t) with
    | none => simp
    | some q =>
      obtain ⟨x, hx, _, hq⟩ := fS_some e
      have := hi.bd x hx
      rw [← hq]
      simp
      omega
  rw [this]
  exact ⟨fun h => ⟨h.2, h.1⟩, fun h => ⟨h.2, h.1⟩⟩
theorem ins_trips (x : Nt) (l : List Nt) : insL (trip x) (trips l) = trips (insN x l) := by
  unfold insL insN trips
  rw [List.filter_map, List.filter_map, List.map_append, List.map_cons]
  rfl
theorem fold_trips : ∀ (l o : List Nt), (trips l).foldl (fun o x => insL x o) (trips o) = trips (l.foldl (fun o x => insN x o) o)
  | [], o => rfl
  | x :: l, o => by
    show (trips l).foldl _ (insL (trip x) (trips o)) = _
    rw [ins_trips]
    exact fold_trips l _
theorem take_trips (S : List Nt) (c now : Int) : takeL (trips S) c now = trips (takeS S c now) := by
  unfold takeL takeS sortL sortN
  have : (trips S).filter (dueB c now) = trips (S.filter (dueI c now)) := by unfold trips; rw [List.filter_map]; rfl
  rw [this]
  exact fold_trips _ []
theorem rest_trips (S : List Nt) (c now : Int) : restL (trips S) c now = trips (restS S c now) := by
  unfold restL restS trips
  rw [List.filter_map]; rfl
theorem len_trips (S : List Nt) (c : Int) : lenL (trips S) c = lenS S c := by
  unfold lenL lenS trips
  rw [List.filter_map, List.length_map]; rfl
theorem tasks_trips (S : List Nt) : (trips S).map (·.2.1) = S.map Nt.t := by
  unfold trips
  rw [List.map_map]; rfl
theorem trips_len (S : List Nt) : (trips S).length = S.length := by unfold trips; rw [List.length_map]

/-- Boxes and the document's, behind a call's start. -/
structure IP (w wx : World) (b bm T x : Nat) (v : Value) (cores : Int) (S : List Nt) (L : List Nd) : Prop where
  below : Below w.heap.size w wx
  ipi : IsIpi wx w.heap.size b bm cores T S
  ref : R10 wx w.heap.size x v cores L
  apart : ∀ k, ISet b bm k → ¬ R10Set x v k
/-- A block beside both. -/
structure Bsd (wx : World) (D : Nat) (o : Obj) (b bm x : Nat) (v : Value) : Prop where
  blk : wx.heap[D]? = some o
  ni : ¬ ISet b bm D
  nx : ¬ R10Set x v D
section
variable {w wx w' : World} {b bm T T' x D : Nat} {v : Value} {cores : Int} {S S' : List Nt} {L L' : List Nd} {o : Obj}
theorem IP.stepI (h : IP w wx b bm T x v cores S L) (hI : IsIpi w' w.heap.size b bm cores T' S') (hF : Fr (ISet b bm) wx w') : IP w w' b bm T' x v cores S' L :=
  ⟨((Fr.of_below (S := NoB) h.below).trans hF (fun k hk => .inr (h.ipi.at_.lt k hk).1)).no, hI, h.ref.kept hF (fun k hk e => h.apart k e hk), h.apart⟩
theorem Bsd.stepI (h : Bsd wx D o b bm x v) (hF : Fr (ISet b bm) wx w') : Bsd w' D o b bm x v := ⟨hF.blk h.blk h.ni, h.ni, h.nx⟩
theorem IP.stepR (h : IP w wx b bm T x v cores S L) (hB : R10Behind wx w.heap.size x v cores L' w') :
    ∃ v', IP w w' b bm T x v' cores S L' ∧ ∀ D o, Bsd wx D o b bm x v → Bsd w' D o b bm x v' := by
  obtain ⟨v', hR, hF, hN⟩ := hB
  refine ⟨v', ⟨((Fr.of_below (S := NoB) h.below).trans hF (fun k hk => .inr (h.ref.lt k hk).1)).no, h.ipi.kept hF h.apart, hR, fun k hk e => ?_⟩, fun D o hD => ⟨hF.blk hD.blk hD.nx, hD.ni, fun e => (hN D e).elim hD.nx (fun h => by have := blk_lt hD.blk; omega)⟩⟩
  have := (h.ipi.at_.lt k hk).2
  exact (hN k e).elim (h.apart k hk) (fun h => by omega)
theorem IP.later (h : IP w wx b bm T x v cores S L) (hb : Below wx.heap.size wx w') : IP w w' b bm T x v cores S L := ⟨below_then h.below hb, h.ipi.later hb, h.ref.later hb, h.apart⟩
theorem Bsd.later (h : Bsd wx D o b bm x v) (hb : Below wx.heap.size wx w') : Bsd w' D o b bm x v := ⟨(fr0 hb).blk h.blk (fun h => h), h.ni, h.nx⟩
theorem IP.beside (h : IP w wx b bm T x v cores S L) (o : Obj) : IP w (wx.alloc o) b bm T x v cores S L ∧ Bsd (wx.alloc o) wx.heap.size o b bm x v := by
  refine ⟨h.later ((Below.refl _ _).alloc (Nat.le_refl _) _), ⟨blk_new _ _, fun e => ?_, fun e => ?_⟩⟩
  · have := (h.ipi.at_.lt _ e).2; omega
  · have := (h.ref.lt _ e).2; omega
end
/-- Sending, whatever may be sent. -/
theorem sends {cores : Int} {T : Nat} {S : List Nt} (c t now lat : Int) (hc : -9223372036854775808 ≤ c ∧ c ≤ 9223372036854775807 ∧ -9223372036854775808 ≤ t ∧ t ≤ 9223372036854775807) (hn : now ≤ 9223372036854775807) (hT : T < 1000) (hi : NtInv cores T S) (hl : S.length ≤ T) :
    ∃ (ok : Bool) (T' : Nat) (S' : List Nt), T' ≤ T + 1 ∧
      (∀ (w W : World) (b bm x : Nat) (v : Value) (L : List Nd), IP w W b bm T x v cores S L → Calls Try.prog 20 #[.pointer (some ⟨b, 0, none⟩), .int .i64 c, .int .i64 t, .int .i64 now, .int .i64 lat] W fun e w' => e = .returned (.bool ok) ∧ IsIpi w' w.heap.size b bm cores T' S' ∧ Fr (ISet b bm) W w') ∧
      (∀ (w W : World) (b bm x Tx : Nat) (v : Value) (Sx : List Nt), IP w W b bm Tx x v cores Sx (trips S) → Calls Try.prog 21 #[.pointer (some ⟨x, 0, none⟩), .int .i64 c, .int .i64 t, .int .i64 now, .int .i64 lat] W fun e w' => e = .returned (.bool ok) ∧ R10Behind W w.heap.size x v cores (trips S') w') := by
  by_cases h : sendOk cores S c t now
  · refine ⟨true, T + 1, S ++ [⟨c, t, now + latV lat, (T : Int) + 1⟩], Nat.le_refl _, fun w W b bm x v L hI => is_send hI.ipi (pw _ _ hc) (by omega) h, fun w W b bm x Tx v Sx hI => ?_⟩
    have := r10_send hI.ref c t now lat (by rw [trips_len]; omega) ((send_trips hi c t now).2 h)
    rwa [show trips S ++ [(c, t, now + latV lat)] = trips (S ++ [⟨c, t, now + latV lat, (T : Int) + 1⟩]) by unfold trips; rw [List.map_append]; rfl] at this
  · refine ⟨false, T, S, by omega, fun w W b bm x v L hI => (is_send_no hI.ipi (pw _ _ hc) hn h).mono ?_, fun w W b bm x Tx v Sx hI => (r10_send_no hI.ref c t now lat (by rw [trips_len]; omega) (fun h2 => h ((send_trips hi c t now).1 h2))).mono ?_⟩
    · rintro e w' ⟨rfl, hb⟩
      exact ⟨rfl, hI.ipi.later hb, Fr.of_below hb⟩
    · rintro e w' ⟨rfl, rfl⟩
      exact ⟨rfl, v, hI.ref, Fr.refl _ _, fun k hk => .inl hk⟩
set_option maxRecDepth 1000000 in
set_option maxHeartbeats 3200000 in
theorem ipiplays_no {w : World} (c : Int) (A : Option Addr) (len cap : Nat) (h0 : c < 1 ∨ 8 < c) :
    Calls Try.prog 3 #[.int .i64 c, .slice A len cap] w fun e w' => e = .returned (.bool true) ∧ Below w.heap.size w w' := by
  go_enter Try.func3, Try.ntmps3
  go_wp2_with fail
  refine ipiex_any.mono ?_
  rintro e w1 ⟨rfl, hb1⟩
  go_wp2_with fail
  refine (ipi_new_no c h0).mono ?_
  rintro e w2 ⟨rfl, rfl⟩
  go_wp2_with fail
  refine (r10_new_no c h0).mono ?_
  rintro e w3 ⟨rfl, rfl⟩
  go_wp2_with fail
  go_ret
  exact ⟨rfl, hb1⟩
set_option maxRecDepth 1000000 in
set_option maxHeartbeats 6400000 in
theorem ipiplays_yes {w : World} (cores : Int) (A : Option Addr) (len cap : Nat) (h0 : 1 ≤ cores ∧ cores ≤ 8) (hlen : len ≤ 9223372036854775807) (Z : Nat → Nat → Int) (hz : IntRows w A len 5 Z) :
    Calls Try.prog 3 #[.int .i64 cores, .slice A len cap] w fun e w' => e = .returned (.bool true) ∧ Below w.heap.size w w' := by
  have HZ := hid hz
  clear hz
  go_enter Try.func3, Try.ntmps3
  go_wp2_with fail
  refine ipiex_any.mono ?_
  rintro e w1 ⟨rfl, hb1⟩
  go_wp2_with fail
  refine (is_new h0.1 h0.2).mono ?_
  rintro e w2 ⟨b, bm, rfl, hI2, hb2⟩
  go_wp2_with fail
  refine (r10_new_yes cores h0).mono ?_
  rintro e w3 ⟨rfl, hR3, hb3⟩
  obtain ⟨x, hx⟩ : ∃ x, x = w2.heap.size := ⟨_, rfl⟩
  have hb3' : Below w2.heap.size w2 w3 := hb3
  have hsz := hb1.size
  have hI3 := (hI2.later hb3')
  have HA : Hid (IP w w3 b bm 0 x (.slice none 0 0) cores [] (trips [])) := hid ⟨below_then (below_then hb1 hb2) hb3', ⟨hI3.at_.weak hsz, hI3.inv, hI3.few, hI3.len⟩, by
      have h := hR3
      rw [← hx] at h
      exact ⟨h.hx, own_mono h.row (by have := hb2.size; omega), by have := hb2.size; omega⟩, fun k hk e => by
      have h1 := (hI2.at_.lt k hk).2
      rcases e with e | e
      · omega
      · cases e⟩
  rw [← hx]
  clear hI2 hR3 hb1 hb2 hb3 hb3' hsz hI3 hx
  go_wp2_with fail
  go_loopw [9] (fun i wr => ∃ (k T : Nat) (S : List Nt) (v : Value), k ≤ len ∧ k ≤ 300 ∧ i = .int .i64 k ∧ T ≤ k ∧ IP w wr b bm T x v cores S (trips S)) (fun i _ => 300 - (intOf i).toNat)
  case atStart => exact ⟨0, 0, [], _, by omega, by omega, rfl, by omega, HA.out⟩
  case round =>
    obtain ⟨k, T, S, v, hk1, hk2, rfl, hT, hI⟩ := hrel
    by_cases h1 : k < len
    · by_cases h2 : k < 300
      · obtain ⟨ab, ao, rfl, hbl, hcs⟩ := HZ.out k h1
        obtain ⟨hc0, hd01, hd02⟩ := hcs 0 (by omega)
        obtain ⟨hc1, hd11, hd12⟩ := hcs 1 (by omega)
        obtain ⟨hc2, hd21, hd22⟩ := hcs 2 (by omega)
        obtain ⟨hc3, hd31, hd32⟩ := hcs 3 (by omega)
        obtain ⟨hc4, hd41, hd42⟩ := hcs 4 (by omega)
        have c0 : wr.cell? ⟨ab, ao + k * 5, none⟩ = some (.int .i64 (Z k 0)) := (hI.below.cell hbl).trans hc0
        have c1 : wr.cell? ⟨ab, ao + k * 5 + 1, none⟩ = some (.int .i64 (Z k 1)) := (hI.below.cell hbl).trans hc1
        have c2 : wr.cell? ⟨ab, ao + k * 5 + 2, none⟩ = some (.int .i64 (Z k 2)) := (hI.below.cell hbl).trans hc2
        have c3 : wr.cell? ⟨ab, ao + k * 5 + 3, none⟩ = some (.int .i64 (Z k 3)) := (hI.below.cell hbl).trans hc3
        have c4 : wr.cell? ⟨ab, ao + k * 5 + 4, none⟩ = some (.int .i64 (Z k 4)) := (hI.below.cell hbl).trans hc4
        clear hc0 hc1 hc2 hc3 hc4 hcs
        generalize Z k 0 = d0 at *
        generalize Z k 1 = d1 at *
        generalize Z k 2 = d2 at *
        generalize Z k 3 = d3 at *
        generalize Z k 4 = d4 at *
        have hK := pickN_bd d0 2 (by omega)
        have hKp := fun W => ipipick_any (w := W) d0 2 hd01 hd02 (by omega) (by omega)
        generalize pickN d0 2 = K at *
        have HK := hid hKp
        clear hKp
        obtain ⟨hI1, hD1⟩ := hI.beside (.cells #[.int .i64 d0, .int .i64 d1, .int .i64 d2, .int .i64 d3, .int .i64 d4] 31)
        have HI := hid hI1
        have HD := hid hD1
        have HINV := hid (And.intro hI.ipi.inv hI.ipi.len)
        clear hI hI1 hD1
        go_upto_if 57 with (go_at_call 19; refine (HK.out _).mono ?_; rintro e w' ⟨rfl, rfl⟩)
        generalize hw1 : wr.alloc (.cells #[.int .i64 d0, .int .i64 d1, .int .i64 d2, .int .i64 d3, .int .i64 d4] 31) = w1
        rw [hw1] at HI HD
        obtain ⟨D, hDe⟩ : ∃ D, wr.heap.size = D := ⟨_, rfl⟩
        rw [hDe] at HD ⊢
        clear hw1 hDe c0 c1 c2 c3 c4
        go_cut [11] (fun g wx => g = .bool true ∧ ∃ T' S' v', T' ≤ k + 1 ∧ IP w wx b bm T' x v' cores S' (trips S') ∧ Bsd wx D (.cells #[.int .i64 d0, .int .i64 d1, .int .i64 d2, .int .i64 d3, .int .i64 d4] 31) b bm x v')
        case first =>
          as_aux_lemma =>
            rcases (show K = 0 ∨ K = 1 by omega) with rfl | rfl
            · obtain ⟨ok, T', S', hT', hSA, hSB⟩ := sends (cores := cores) (T := T) (S := S) d1 d2 d3 d4 ⟨hd11, hd12, hd21, hd22⟩ hd32 (by omega) HINV.out.1 HINV.out.2
              have HSA := hid hSA
              have HSB := hid hSB
              clear hSA hSB HINV
              go_upto_region 14 with fail
              have F1 := hid (fun (W : World) (h : W.heap[D]? = some (.cells #[.int .i64 d0, .int .i64 d1, .int .i64 d2, .int .i64 d3, .int .i64 d4] 31 (0, 0))) => (blk_cell h 1 : W.cell? ⟨D, 1, none⟩ = some (.int .i64 d1)))
              have F2 := hid (fun (W : World) (h : W.heap[D]? = some (.cells #[.int .i64 d0, .int .i64 d1, .int .i64 d2, .int .i64 d3, .int .i64 d4] 31 (0, 0))) => (blk_cell h 2 : W.cell? ⟨D, 2, none⟩ = some (.int .i64 d2)))
              have F3 := hid (fun (W : World) (h : W.heap[D]? = some (.cells #[.int .i64 d0, .int .i64 d1, .int .i64 d2, .int .i64 d3, .int .i64 d4] 31 (0, 0))) => (blk_cell h 3 : W.cell? ⟨D, 3, none⟩ = some (.int .i64 d3)))
              have F4 := hid (fun (W : World) (h : W.heap[D]? = some (.cells #[.int .i64 d0, .int .i64 d1, .int .i64 d2, .int .i64 d3, .int .i64 d4] 31 (0, 0))) => (blk_cell h 4 : W.cell? ⟨D, 4, none⟩ = some (.int .i64 d4)))
              have HI1 := hid (HI.out.later (w' := w1.drew) (below_drewN' (Below.refl _ w1) 1))
              have HD1 := hid (HD.out.later (w' := w1.drew) (below_drewN' (Below.refl _ w1) 1))
              clear HI HD
              refine wp_region_held_drew (S := fun W => W.heap[D]? = some (.cells #[.int .i64 d0, .int .i64 d1, .int .i64 d2, .int .i64 d3, .int .i64 d4] 31 (0, 0))) (by kernel_rfl) HD1.out.blk (fun hHeld => ?_)
              refine wpAnyH_take (i := 0) (oi := ?ois0) (v := ?vs0) ?his0 (by kernel_rfl) (by kernel_rfl) (by kernel_rfl) ?hqs0 (Or.inl ⟨?was0, ?hys0⟩) (by assumption) ?hrs0
              case his0 => (simp only [List.getElem?_toArray, List.getElem?_cons_succ, List.getElem?_cons_zero]; rfl)
              case was0 => rfl
              case hys0 => ((intro w hSw; (try dsimp only at hSw); go_simp); all_goals (with_reducible rfl))
              case hqs0 => exact fun _ _ _ h => h
              try simp only [Act.put, List.setIfInBounds_toArray, List.set_cons_zero, List.set_cons_succ]
              refine wpAnyH_take (i := 1) (oi := ?ois1) (v := ?vs1) ?his1 (by kernel_rfl) (by kernel_rfl) (by kernel_rfl) ?hqs1 (Or.inl ⟨?was1, ?hys1⟩) (by assumption) ?hrs1
              case his1 => (simp only [List.getElem?_toArray, List.getElem?_cons_succ, List.getElem?_cons_zero]; rfl)
              case was1 => rfl
              case hys1 => ((intro w hSw; (try dsimp only at hSw); go_simp); all_goals (with_reducible rfl))
              case hqs1 => exact fun _ _ _ h => h
              try simp only [Act.put, List.setIfInBounds_toArray, List.set_cons_zero, List.set_cons_succ]
              refine wpAnyH_take (i := 2) (oi := ?ois2) (v := ?vs2) ?his2 (by kernel_rfl) (by kernel_rfl) (by kernel_rfl) ?hqs2 (Or.inl ⟨?was2, ?hys2⟩) (by assumption) ?hrs2
              case his2 => (simp only [List.getElem?_toArray, List.getElem?_cons_succ, List.getElem?_cons_zero]; rfl)
              case was2 => rfl
              case hys2 => ((intro w hSw; have q0 := F1.out w hSw; (try dsimp only at hSw); go_simp); all_goals (with_reducible rfl))
              case hqs2 => exact fun _ _ _ h => h
              try simp only [Act.put, List.setIfInBounds_toArray, List.set_cons_zero, List.set_cons_succ]
              refine wpAnyH_take (i := 3) (oi := ?ois3) (v := ?vs3) ?his3 (by kernel_rfl) (by kernel_rfl) (by kernel_rfl) ?hqs3 (Or.inl ⟨?was3, ?hys3⟩) (by assumption) ?hrs3
              case his3 => (simp only [List.getElem?_toArray, List.getElem?_cons_succ, List.getElem?_cons_zero]; rfl)
              case was3 => rfl
              case hys3 => ((intro w hSw; (try dsimp only at hSw); go_simp); all_goals (with_reducible rfl))
              case hqs3 => exact fun _ _ _ h => h
              try simp only [Act.put, List.setIfInBounds_toArray, List.set_cons_zero, List.set_cons_succ]
              refine wpAnyH_take (i := 4) (oi := ?ois4) (v := ?vs4) ?his4 (by kernel_rfl) (by kernel_rfl) (by kernel_rfl) ?hqs4 (Or.inl ⟨?was4, ?hys4⟩) (by assumption) ?hrs4
              case his4 => (simp only [List.getElem?_toArray, List.getElem?_cons_succ, List.getElem?_cons_zero]; rfl)
              case was4 => rfl
              case hys4 => ((intro w hSw; have q0 := F2.out w hSw; (try dsimp only at hSw); go_simp); all_goals (with_reducible rfl))
              case hqs4 => exact fun _ _ _ h => h
              try simp only [Act.put, List.setIfInBounds_toArray, List.set_cons_zero, List.set_cons_succ]
              refine wpAnyH_take (i := 5) (oi := ?ois5) (v := ?vs5) ?his5 (by kernel_rfl) (by kernel_rfl) (by kernel_rfl) ?hqs5 (Or.inl ⟨?was5, ?hys5⟩) (by assumption) ?hrs5
              case his5 => (simp only [List.getElem?_toArray, List.getElem?_cons_succ, List.getElem?_cons_zero]; rfl)
              case was5 => rfl
              case hys5 => ((intro w hSw; (try dsimp only at hSw); go_simp); all_goals (with_reducible rfl))
              case hqs5 => exact fun _ _ _ h => h
              try simp only [Act.put, List.setIfInBounds_toArray, List.set_cons_zero, List.set_cons_succ]
              refine wpAnyH_take (i := 6) (oi := ?ois6) (v := ?vs6) ?his6 (by kernel_rfl) (by kernel_rfl) (by kernel_rfl) ?hqs6 (Or.inl ⟨?was6, ?hys6⟩) (by assumption) ?hrs6
              case his6 => (simp only [List.getElem?_toArray, List.getElem?_cons_succ, List.getElem?_cons_zero]; rfl)
              case was6 => rfl
              case hys6 => ((intro w hSw; have q0 := F3.out w hSw; (try dsimp only at hSw); go_simp); all_goals (with_reducible rfl))
              case hqs6 => exact fun _ _ _ h => h
              try simp only [Act.put, List.setIfInBounds_toArray, List.set_cons_zero, List.set_cons_succ]
              refine wpAnyH_take (i := 7) (oi := ?ois7) (v := ?vs7) ?his7 (by kernel_rfl) (by kernel_rfl) (by kernel_rfl) ?hqs7 (Or.inl ⟨?was7, ?hys7⟩) (by assumption) ?hrs7
              case his7 => (simp only [List.getElem?_toArray, List.getElem?_cons_succ, List.getElem?_cons_zero]; rfl)
              case was7 => rfl
              case hys7 => ((intro w hSw; (try dsimp only at hSw); go_simp); all_goals (with_reducible rfl))
              case hqs7 => exact fun _ _ _ h => h
              try simp only [Act.put, List.setIfInBounds_toArray, List.set_cons_zero, List.set_cons_succ]
              refine wpAnyH_take (i := 8) (oi := ?ois8) (v := ?vs8) ?his8 (by kernel_rfl) (by kernel_rfl) (by kernel_rfl) ?hqs8 (Or.inl ⟨?was8, ?hys8⟩) (by assumption) ?hrs8
              case his8 => (simp only [List.getElem?_toArray, List.getElem?_cons_succ, List.getElem?_cons_zero]; rfl)
              case was8 => rfl
              case hys8 => ((intro w hSw; have q0 := F4.out w hSw; (try dsimp only at hSw); go_simp); all_goals (with_reducible rfl))
              case hqs8 => exact fun _ _ _ h => h
              try simp only [Act.put, List.setIfInBounds_toArray, List.set_cons_zero, List.set_cons_succ]
              refine wpAnyH_take (i := 10) (oi := ?ois10) (v := ?vs10) ?his10 (by kernel_rfl) (by kernel_rfl) (by kernel_rfl) ?hqs10 (Or.inl ⟨?was10, ?hys10⟩) (by assumption) ?hrs10
              case his10 => (simp only [List.getElem?_toArray, List.getElem?_cons_succ, List.getElem?_cons_zero]; rfl)
              case was10 => rfl
              case hys10 => ((intro w hSw; (try dsimp only at hSw); go_simp); all_goals (with_reducible rfl))
              case hqs10 => exact fun _ _ _ h => h
              try simp only [Act.put, List.setIfInBounds_toArray, List.set_cons_zero, List.set_cons_succ]
              refine wpAnyH_take (i := 11) (oi := ?ois11) (v := ?vs11) ?his11 (by kernel_rfl) (by kernel_rfl) (by kernel_rfl) ?hqs11 (Or.inl ⟨?was11, ?hys11⟩) (by assumption) ?hrs11
              case his11 => (simp only [List.getElem?_toArray, List.getElem?_cons_succ, List.getElem?_cons_zero]; rfl)
              case was11 => rfl
              case hys11 => ((intro w hSw; (try dsimp only at hSw); go_simp); all_goals (with_reducible rfl))
              case hqs11 => exact fun _ _ _ h => h
              try simp only [Act.put, List.setIfInBounds_toArray, List.set_cons_zero, List.set_cons_succ]
              refine wpAnyH_take (i := 12) (oi := ?ois12) (v := ?vs12) ?his12 (by kernel_rfl) (by kernel_rfl) (by kernel_rfl) ?hqs12 (Or.inl ⟨?was12, ?hys12⟩) (by assumption) ?hrs12
              case his12 => (simp only [List.getElem?_toArray, List.getElem?_cons_succ, List.getElem?_cons_zero]; rfl)
              case was12 => rfl
              case hys12 => ((intro w hSw; have q0 := F1.out w hSw; (try dsimp only at hSw); go_simp); all_goals (with_reducible rfl))
              case hqs12 => exact fun _ _ _ h => h
              try simp only [Act.put, List.setIfInBounds_toArray, List.set_cons_zero, List.set_cons_succ]
              refine wpAnyH_take (i := 13) (oi := ?ois13) (v := ?vs13) ?his13 (by kernel_rfl) (by kernel_rfl) (by kernel_rfl) ?hqs13 (Or.inl ⟨?was13, ?hys13⟩) (by assumption) ?hrs13
              case his13 => (simp only [List.getElem?_toArray, List.getElem?_cons_succ, List.getElem?_cons_zero]; rfl)
              case was13 => rfl
              case hys13 => ((intro w hSw; (try dsimp only at hSw); go_simp); all_goals (with_reducible rfl))
              case hqs13 => exact fun _ _ _ h => h
              try simp only [Act.put, List.setIfInBounds_toArray, List.set_cons_zero, List.set_cons_succ]
              refine wpAnyH_take (i := 14) (oi := ?ois14) (v := ?vs14) ?his14 (by kernel_rfl) (by kernel_rfl) (by kernel_rfl) ?hqs14 (Or.inl ⟨?was14, ?hys14⟩) (by assumption) ?hrs14
              case his14 => (simp only [List.getElem?_toArray, List.getElem?_cons_succ, List.getElem?_cons_zero]; rfl)
              case was14 => rfl
              case hys14 => ((intro w hSw; have q0 := F2.out w hSw; (try dsimp only at hSw); go_simp); all_goals (with_reducible rfl))
              case hqs14 => exact fun _ _ _ h => h
              try simp only [Act.put, List.setIfInBounds_toArray, List.set_cons_zero, List.set_cons_succ]
              refine wpAnyH_take (i := 15) (oi := ?ois15) (v := ?vs15) ?his15 (by kernel_rfl) (by kernel_rfl) (by kernel_rfl) ?hqs15 (Or.inl ⟨?was15, ?hys15⟩) (by assumption) ?hrs15
              case his15 => (simp only [List.getElem?_toArray, List.getElem?_cons_succ, List.getElem?_cons_zero]; rfl)
              case was15 => rfl
              case hys15 => ((intro w hSw; (try dsimp only at hSw); go_simp); all_goals (with_reducible rfl))
              case hqs15 => exact fun _ _ _ h => h
              try simp only [Act.put, List.setIfInBounds_toArray, List.set_cons_zero, List.set_cons_succ]
              refine wpAnyH_take (i := 16) (oi := ?ois16) (v := ?vs16) ?his16 (by kernel_rfl) (by kernel_rfl) (by kernel_rfl) ?hqs16 (Or.inl ⟨?was16, ?hys16⟩) (by assumption) ?hrs16
              case his16 => (simp only [List.getElem?_toArray, List.getElem?_cons_succ, List.getElem?_cons_zero]; rfl)
              case was16 => rfl
              case hys16 => ((intro w hSw; have q0 := F3.out w hSw; (try dsimp only at hSw); go_simp); all_goals (with_reducible rfl))
              case hqs16 => exact fun _ _ _ h => h
              try simp only [Act.put, List.setIfInBounds_toArray, List.set_cons_zero, List.set_cons_succ]
              refine wpAnyH_take (i := 17) (oi := ?ois17) (v := ?vs17) ?his17 (by kernel_rfl) (by kernel_rfl) (by kernel_rfl) ?hqs17 (Or.inl ⟨?was17, ?hys17⟩) (by assumption) ?hrs17
              case his17 => (simp only [List.getElem?_toArray, List.getElem?_cons_succ, List.getElem?_cons_zero]; rfl)
              case was17 => rfl
              case hys17 => ((intro w hSw; (try dsimp only at hSw); go_simp); all_goals (with_reducible rfl))
              case hqs17 => exact fun _ _ _ h => h
              try simp only [Act.put, List.setIfInBounds_toArray, List.set_cons_zero, List.set_cons_succ]
              refine wpAnyH_take (i := 18) (oi := ?ois18) (v := ?vs18) ?his18 (by kernel_rfl) (by kernel_rfl) (by kernel_rfl) ?hqs18 (Or.inl ⟨?was18, ?hys18⟩) (by assumption) ?hrs18
              case his18 => (simp only [List.getElem?_toArray, List.getElem?_cons_succ, List.getElem?_cons_zero]; rfl)
              case was18 => rfl
              case hys18 => ((intro w hSw; have q0 := F4.out w hSw; (try dsimp only at hSw); go_simp); all_goals (with_reducible rfl))
              case hqs18 => exact fun _ _ _ h => h
              try simp only [Act.put, List.setIfInBounds_toArray, List.set_cons_zero, List.set_cons_succ]
              refine wpAnyH_ready (rs := [9]) (by kernel_rfl) (by simp) ?_
              refine (AllReadyH.cons (i := 9) (o := ?os9) ?his9 ?sts9 AllReadyH.nil)
              case his9 => (simp only [List.getElem?_toArray, List.getElem?_cons_succ, List.getElem?_cons_zero]; rfl)
              case sts9 =>
                intro K hK
                go_simp
                refine (HSA.out _ _ _ _ _ _ _ HI1.out).mono ?_
                rintro e w6 ⟨rfl, hI6, hF6⟩
                have HIA := hid (HI1.out.stepI hI6 hF6)
                have HDA := hid (HD1.out.stepI hF6)
                clear hI6 hF6
                go_wp2_with fail
                refine hK.out _ _ ?_ (fun hHeld => ?_)
                · exact HDA.out.blk
                clear hK K
                try simp only [Act.put, List.setIfInBounds_toArray, List.set_cons_zero, List.set_cons_succ]
                refine wpAnyH_ready (rs := [19]) (by kernel_rfl) (by simp) ?_
                refine (AllReadyH.cons (i := 19) (o := ?os9_19) ?his9_19 ?sts9_19 AllReadyH.nil)
                case his9_19 => (simp only [List.getElem?_toArray, List.getElem?_cons_succ, List.getElem?_cons_zero]; rfl)
                case sts9_19 =>
                  intro K hK
                  go_simp
                  refine (HSB.out _ _ _ _ _ _ _ _ HIA.out).mono ?_
                  rintro e w7 ⟨rfl, hB7⟩
                  obtain ⟨v7, hI7, hD7⟩ := HIA.out.stepR hB7
                  have HIZ := hid hI7
                  have HDZ := hid (hD7 _ _ HDA.out)
                  clear hB7 hI7 hD7
                  go_wp2_with fail
                  refine hK.out _ _ ?_ (fun hHeld => ?_)
                  · exact HDZ.out.blk
                  clear hK K
                  try simp only [Act.put, List.setIfInBounds_toArray, List.set_cons_zero, List.set_cons_succ]
                  refine wpAnyH_ready (rs := [20]) (by kernel_rfl) (by simp) ?_
                  refine (AllReadyH.cons (i := 20) (o := ?os9_19_20) ?his9_19_20 ?sts9_19_20 AllReadyH.nil)
                  case his9_19_20 => (simp only [List.getElem?_toArray, List.getElem?_cons_succ, List.getElem?_cons_zero]; rfl)
                  case sts9_19_20 =>
                    intro K hK
                    go_simp
                    go_wp2_with fail
                    refine hK.out _ _ ?_ (fun hHeld => ?_)
                    · assumption
                    clear hK K
                    try simp only [Act.put, List.setIfInBounds_toArray, List.set_cons_zero, List.set_cons_succ]
                    refine wpAnyH_ready (rs := [21]) (by kernel_rfl) (by simp) ?_
                    refine (AllReadyH.cons (i := 21) (o := ?os9_19_20_21) ?his9_19_20_21 ?sts9_19_20_21 AllReadyH.nil)
                    case his9_19_20_21 => (simp only [List.getElem?_toArray, List.getElem?_cons_succ, List.getElem?_cons_zero]; rfl)
                    case sts9_19_20_21 =>
                      intro K hK
                      go_simp
                      go_wp2_with fail
                      refine hK.out _ _ ?_ (fun hHeld => ?_)
                      · assumption
                      clear hK K
                      try simp only [Act.put, List.setIfInBounds_toArray, List.set_cons_zero, List.set_cons_succ]
                      refine wpAnyH_done (by kernel_rfl) ?_ _
                      go_wp2_with fail
                      go_meet
                      exact ⟨by simp, T', S', _, by omega, HIZ.out, HDZ.out⟩
            · obtain ⟨l, hl⟩ : ∃ l, (takeS S d1 d3).map Nt.t = l := ⟨_, rfl⟩
              obtain ⟨R, hR⟩ : ∃ R, restS S d1 d3 = R := ⟨_, rfl⟩
              have HL := hid hl
              have HR := hid hR
              have f11 : w1.cell? ⟨D, 1, none⟩ = some (.int .i64 d1) := blk_cell HD.out.blk 1
              have f13 : w1.cell? ⟨D, 3, none⟩ = some (.int .i64 d3) := blk_cell HD.out.blk 3
              clear hl hR
              go_wp2_with fail
              refine (is_take HI.out.ipi (core := d1) (now := d3) (wfI hd11 hd12) (by omega)).mono ?_
              rintro e w4 ⟨v4, rfl, hO4, hI4, hF4⟩
              rw [HL.out] at hO4
              rw [HR.out] at hI4
              have HI4 := hid (HI.out.stepI hI4 hF4)
              have HD4 := hid (HD.out.stepI hF4)
              have HO4 := hid hO4
              have f41 : w4.cell? ⟨D, 1, none⟩ = some (.int .i64 d1) := blk_cell HD4.out.blk 1
              have f43 : w4.cell? ⟨D, 3, none⟩ = some (.int .i64 d3) := blk_cell HD4.out.blk 3
              clear hO4 hI4 hF4 f11 f13
              go_wp2_with fail
              refine (r10_take HI4.out.ref d1 d3 (by rw [trips_len]; have := HINV.out.2; omega)).mono ?_
              rintro e w5 ⟨v5, rfl, hO5, hB5, _⟩
              rw [take_trips, tasks_trips, HL.out] at hO5
              rw [rest_trips, HR.out] at hB5
              have hO45 : w5.ownsRow w1.heap.size 3 1 v4 l.length (intCells l) := by
                obtain ⟨_, _, hF5, _⟩ := hB5
                exact own_kept HO4.out hF5 (fun k hk e => by have h1 := own_ge HO4.out k hk; have h2 := (HI.out.ref.lt k e).2; omega)
              obtain ⟨v6, hI5, hD5⟩ := HI4.out.stepR hB5
              have HI5 := hid hI5
              have HD5 := hid (hD5 _ _ HD4.out)
              obtain ⟨nl, hnl⟩ : ∃ nl, nl = l.length := ⟨_, rfl⟩
              have hnl2 : nl < 1000000 := by
                rw [hnl, ← HL.out, List.length_map]
                have hp : (takeS S d1 d3).Perm (S.filter (dueI d1 d3)) := sortN_perm (HINV.out.1.turns.sublist List.filter_sublist)
                have h1 := hp.length_eq
                have h2 := List.length_filter_le (dueI d1 d3) S
                have h3 := HINV.out.2
                omega
              rw [← hnl] at hO5 hO45
              obtain ⟨A4, c4, rfl⟩ := own_slice hO45
              obtain ⟨A5, c5, rfl⟩ := own_slice hO5
              have HH4 := hid (own_holds hO45)
              have HH5 := hid (own_holds hO5)
              have HNL := hid hnl
              clear hO5 hO45 hB5 hI5 hD5 hnl f41 f43
              go_wp2_with fail
              go_loopw [11, 14] (fun g i wx => ∃ j q : Nat, j ≤ nl ∧ g = .bool true ∧ i = .int .i64 j ∧ wx = w5.drewN q) (fun _ i _ => nl - (intOf i).toNat)
              case atStart => exact ⟨0, 0, by omega, by simp, rfl, rfl⟩
              case round =>
                obtain ⟨j, q, hj, rfl, rfl, rfl⟩ := hrel
                by_cases hjn : j < nl
                · obtain ⟨y, hy⟩ : ∃ y, l[j]? = some y := ⟨_, List.getElem?_eq_getElem (by have := HNL.out; omega)⟩
                  obtain ⟨b4, o4, rfl, q4⟩ := HH4.out j y hy
                  obtain ⟨b5, o5, rfl, q5⟩ := HH5.out j y hy
                  clear hy
                  go_wp2_with fail
                  go_quiet (fail)
                  go_wp2_with fail
                  go_roundw
                  case rel => exact ⟨j + 1, q + nq, by omega, by simp, by go_num, by simp⟩
                  case measure => simp [intOf]; omega
                · go_wp2_with fail
                  go_meet
                  exact ⟨rfl, T, R, _, by omega, HI5.out.later (below_drewN' (Below.refl _ _) q), HD5.out.later (below_drewN' (Below.refl _ _) q)⟩
        obtain ⟨rfl, T', S', v', hT', hI2, hD2⟩ := hcut
        have HI2 := hid hI2
        have HD2 := hid hD2
        clear hI2 hD2 HI HD HINV HK
        obtain ⟨C, hCd⟩ : ∃ C : World → Prop, C = fun W => IP w W b bm T' x v' cores S' (trips S') ∧ Bsd W D (.cells #[.int .i64 d0, .int .i64 d1, .int .i64 d2, .int .i64 d3, .int .i64 d4] 31) b bm x v' := ⟨_, rfl⟩
        have HC0 := hid (show ∀ W W', C W → Below W.heap.size W W' → C W' from fun W W' h hb => by rw [hCd] at h ⊢; exact ⟨h.1.later hb, h.2.later hb⟩)
        have HCl := hid (show ∀ W, C W → IP w W b bm T' x v' cores S' (trips S') from fun W h => by rw [hCd] at h; exact h.1)
        have HCs := hid (show C wc from by rw [hCd]; exact ⟨HI2.out, HD2.out⟩)
        have F1 := hid (show ∀ W, C W → W.cell? ⟨D, 1, none⟩ = some (.int .i64 d1) from fun W h => by rw [hCd] at h; exact blk_cell h.2.blk 1)
        have F2 := hid (show ∀ W, C W → W.cell? ⟨D, 2, none⟩ = some (.int .i64 d2) from fun W h => by rw [hCd] at h; exact blk_cell h.2.blk 2)
        have hll : S'.length < 1000 := by have := HI2.out.ipi.len; omega
        obtain ⟨du, hdu⟩ : ∃ du, dueF (fS S') (d1, d2) = du := ⟨_, rfl⟩
        obtain ⟨ln, hln⟩ : ∃ ln, lenS S' d1 = ln := ⟨_, rfl⟩
        have A1 := hid (show ∀ W, C W → Calls Try.prog 24 #[.pointer (some ⟨b, 0, none⟩), .int .i64 d1, .int .i64 d2] W (fun e w' => e = .returned (.int .i64 du) ∧ C w') from fun W h => (is_due (HCl.out W h).ipi (pw _ _ ⟨hd11, hd12, hd21, hd22⟩)).mono fun e w' ⟨he, hb⟩ => ⟨by rw [he, hdu], HC0.out W w' h hb⟩)
        have A2 := hid (show ∀ W, C W → Calls Try.prog 25 #[.pointer (some ⟨x, 0, none⟩), .int .i64 d1, .int .i64 d2] W (fun e w' => e = .returned (.int .i64 du) ∧ C w') from fun W h => (r10_due (HCl.out W h).ref d1 d2 (by rw [trips_len]; omega)).mono fun e w' ⟨he, hb⟩ => ⟨by rw [he, due_trips, hdu], by rw [hb]; exact h⟩)
        have A3 := hid (show ∀ W, C W → Calls Try.prog 26 #[.pointer (some ⟨b, 0, none⟩), .int .i64 d1] W (fun e w' => e = .returned (.int .i64 (ln : Nat)) ∧ C w') from fun W h => (is_len (HCl.out W h).ipi d1 (by omega)).mono fun e w' ⟨he, hb⟩ => ⟨by rw [he, hln], HC0.out W w' h hb⟩)
        have A4 := hid (show ∀ W, C W → Calls Try.prog 27 #[.pointer (some ⟨x, 0, none⟩), .int .i64 d1] W (fun e w' => e = .returned (.int .i64 (ln : Nat)) ∧ C w') from fun W h => (r10_len (HCl.out W h).ref d1 (by rw [trips_len]; omega)).mono fun e w' ⟨he, hb⟩ => ⟨by rw [he, len_trips, hln], by rw [hb]; exact h⟩)
        clear hCd hdu hln
        go_upto_region 22 with fail
        refine wp_region_class (C := C) (by kernel_rfl) (by kernel_rfl) (HC0.out _ _ HCs.out (below_drewN' (Below.refl _ wc) 1)) ?_
        refine wpQuiet_step (fun K hK => ?_)
        rw [if_pos (by rfl)]
        refine Exists.intro ?_ (And.intro (fun W HW => ?_) (hK _ ?_))
        rotate_left
        · ((go_simp); all_goals (with_reducible rfl))
        clear hK K
        try simp only [Act.put, List.setIfInBounds_toArray, List.set_cons_zero, List.set_cons_succ]
        refine wpQuiet_step (fun K hK => ?_)
        rw [if_pos (by rfl)]
        refine Exists.intro ?_ (And.intro (fun W HW => ?_) (hK _ ?_))
        rotate_left
        · ((go_simp); all_goals (with_reducible rfl))
        clear hK K
        try simp only [Act.put, List.setIfInBounds_toArray, List.set_cons_zero, List.set_cons_succ]
        refine wpQuiet_step (fun K hK => ?_)
        rw [if_pos (by rfl)]
        refine Exists.intro ?_ (And.intro (fun W HW => ?_) (hK _ ?_))
        rotate_left
        · ((go_simp); all_goals (with_reducible rfl))
        clear hK K
        try simp only [Act.put, List.setIfInBounds_toArray, List.set_cons_zero, List.set_cons_succ]
        refine wpQuiet_step (fun K hK => ?_)
        rw [if_pos (by rfl)]
        refine Exists.intro ?_ (And.intro (fun W HW => ?_) (hK _ ?_))
        rotate_left
        · ((go_simp); all_goals (with_reducible rfl))
        clear hK K
        try simp only [Act.put, List.setIfInBounds_toArray, List.set_cons_zero, List.set_cons_succ]
        refine wpQuiet_step (fun K hK => ?_)
        rw [if_pos (by rfl)]
        refine Exists.intro ?_ (And.intro (fun W HW => ?_) (hK _ ?_))
        rotate_left
        · ((go_simp); all_goals (with_reducible rfl))
        clear hK K
        try simp only [Act.put, List.setIfInBounds_toArray, List.set_cons_zero, List.set_cons_succ]
        refine wpQuiet_step (fun K hK => ?_)
        rw [if_pos (by rfl)]
        refine Exists.intro ?_ (And.intro (fun W HW => ?_) (hK _ ?_))
        rotate_left
        · (have q0 := F1.out W HW; (go_simp); all_goals (with_reducible rfl))
        clear hK K
        try simp only [Act.put, List.setIfInBounds_toArray, List.set_cons_zero, List.set_cons_succ]
        refine wpQuiet_step (fun K hK => ?_)
        rw [if_pos (by rfl)]
        refine Exists.intro ?_ (And.intro (fun W HW => ?_) (hK _ ?_))
        rotate_left
        · ((go_simp); all_goals (with_reducible rfl))
        clear hK K
        try simp only [Act.put, List.setIfInBounds_toArray, List.set_cons_zero, List.set_cons_succ]
        refine wpQuiet_step (fun K hK => ?_)
        rw [if_pos (by rfl)]
        refine Exists.intro ?_ (And.intro (fun W HW => ?_) (hK _ ?_))
        rotate_left
        · (have q0 := F2.out W HW; (go_simp); all_goals (with_reducible rfl))
        clear hK K
        try simp only [Act.put, List.setIfInBounds_toArray, List.set_cons_zero, List.set_cons_succ]
        refine wpQuiet_step (fun K hK => ?_)
        rw [if_pos (by rfl)]
        refine Exists.intro ?_ (And.intro (fun W HW => ?_) (hK _ ?_))
        rotate_left
        · (go_simp; exact A1.out W HW)
        clear hK K
        try simp only [Act.put, List.setIfInBounds_toArray, List.set_cons_zero, List.set_cons_succ]
        refine wpQuiet_step (fun K hK => ?_)
        rw [if_pos (by rfl)]
        refine Exists.intro ?_ (And.intro (fun W HW => ?_) (hK _ ?_))
        rotate_left
        · ((go_simp); all_goals (with_reducible rfl))
        clear hK K
        try simp only [Act.put, List.setIfInBounds_toArray, List.set_cons_zero, List.set_cons_succ]
        refine wpQuiet_step (fun K hK => ?_)
        rw [if_pos (by rfl)]
        refine Exists.intro ?_ (And.intro (fun W HW => ?_) (hK _ ?_))
        rotate_left
        · ((go_simp); all_goals (with_reducible rfl))
        clear hK K
        try simp only [Act.put, List.setIfInBounds_toArray, List.set_cons_zero, List.set_cons_succ]
        refine wpQuiet_step (fun K hK => ?_)
        rw [if_pos (by rfl)]
        refine Exists.intro ?_ (And.intro (fun W HW => ?_) (hK _ ?_))
        rotate_left
        · (have q0 := F1.out W HW; (go_simp); all_goals (with_reducible rfl))
        clear hK K
        try simp only [Act.put, List.setIfInBounds_toArray, List.set_cons_zero, List.set_cons_succ]
        refine wpQuiet_step (fun K hK => ?_)
        rw [if_pos (by rfl)]
        refine Exists.intro ?_ (And.intro (fun W HW => ?_) (hK _ ?_))
        rotate_left
        · ((go_simp); all_goals (with_reducible rfl))
        clear hK K
        try simp only [Act.put, List.setIfInBounds_toArray, List.set_cons_zero, List.set_cons_succ]
        refine wpQuiet_step (fun K hK => ?_)
        rw [if_pos (by rfl)]
        refine Exists.intro ?_ (And.intro (fun W HW => ?_) (hK _ ?_))
        rotate_left
        · (have q0 := F2.out W HW; (go_simp); all_goals (with_reducible rfl))
        clear hK K
        try simp only [Act.put, List.setIfInBounds_toArray, List.set_cons_zero, List.set_cons_succ]
        refine wpQuiet_step (fun K hK => ?_)
        rw [if_pos (by rfl)]
        refine Exists.intro ?_ (And.intro (fun W HW => ?_) (hK _ ?_))
        rotate_left
        · (go_simp; exact A2.out W HW)
        clear hK K
        try simp only [Act.put, List.setIfInBounds_toArray, List.set_cons_zero, List.set_cons_succ]
        refine wpQuiet_step (fun K hK => ?_)
        rw [if_pos (by rfl)]
        refine Exists.intro ?_ (And.intro (fun W HW => ?_) (hK _ ?_))
        rotate_left
        · ((go_simp); all_goals (with_reducible rfl))
        clear hK K
        try simp only [Act.put, List.setIfInBounds_toArray, List.set_cons_zero, List.set_cons_succ]
        refine wpQuiet_step (fun K hK => ?_)
        rw [if_pos (by rfl)]
        refine Exists.intro ?_ (And.intro (fun W HW => ?_) (hK _ ?_))
        rotate_left
        · ((go_simp); all_goals (with_reducible rfl))
        clear hK K
        try simp only [Act.put, List.setIfInBounds_toArray, List.set_cons_zero, List.set_cons_succ]
        refine wpQuiet_step (fun K hK => ?_)
        rw [if_pos (by rfl)]
        refine Exists.intro ?_ (And.intro (fun W HW => ?_) (hK _ ?_))
        rotate_left
        · ((go_simp); all_goals (with_reducible rfl))
        clear hK K
        try simp only [Act.put, List.setIfInBounds_toArray, List.set_cons_zero, List.set_cons_succ]
        refine wpQuiet_step (fun K hK => ?_)
        rw [if_pos (by rfl)]
        refine Exists.intro ?_ (And.intro (fun W HW => ?_) (hK _ ?_))
        rotate_left
        · ((go_simp); all_goals (with_reducible rfl))
        clear hK K
        try simp only [Act.put, List.setIfInBounds_toArray, List.set_cons_zero, List.set_cons_succ]
        refine wpQuiet_step (fun K hK => ?_)
        rw [if_pos (by rfl)]
        refine Exists.intro ?_ (And.intro (fun W HW => ?_) (hK _ ?_))
        rotate_left
        · ((go_simp); all_goals (with_reducible rfl))
        clear hK K
        try simp only [Act.put, List.setIfInBounds_toArray, List.set_cons_zero, List.set_cons_succ]
        refine wpQuiet_step (fun K hK => ?_)
        rw [if_pos (by rfl)]
        refine Exists.intro ?_ (And.intro (fun W HW => ?_) (hK _ ?_))
        rotate_left
        · (have q0 := F1.out W HW; (go_simp); all_goals (with_reducible rfl))
        clear hK K
        try simp only [Act.put, List.setIfInBounds_toArray, List.set_cons_zero, List.set_cons_succ]
        refine wpQuiet_step (fun K hK => ?_)
        rw [if_pos (by rfl)]
        refine Exists.intro ?_ (And.intro (fun W HW => ?_) (hK _ ?_))
        rotate_left
        · (go_simp; exact A3.out W HW)
        clear hK K
        try simp only [Act.put, List.setIfInBounds_toArray, List.set_cons_zero, List.set_cons_succ]
        refine wpQuiet_step (fun K hK => ?_)
        rw [if_pos (by rfl)]
        refine Exists.intro ?_ (And.intro (fun W HW => ?_) (hK _ ?_))
        rotate_left
        · ((go_simp); all_goals (with_reducible rfl))
        clear hK K
        try simp only [Act.put, List.setIfInBounds_toArray, List.set_cons_zero, List.set_cons_succ]
        refine wpQuiet_step (fun K hK => ?_)
        rw [if_pos (by rfl)]
        refine Exists.intro ?_ (And.intro (fun W HW => ?_) (hK _ ?_))
        rotate_left
        · ((go_simp); all_goals (with_reducible rfl))
        clear hK K
        try simp only [Act.put, List.setIfInBounds_toArray, List.set_cons_zero, List.set_cons_succ]
        refine wpQuiet_step (fun K hK => ?_)
        rw [if_pos (by rfl)]
        refine Exists.intro ?_ (And.intro (fun W HW => ?_) (hK _ ?_))
        rotate_left
        · (have q0 := F1.out W HW; (go_simp); all_goals (with_reducible rfl))
        clear hK K
        try simp only [Act.put, List.setIfInBounds_toArray, List.set_cons_zero, List.set_cons_succ]
        refine wpQuiet_step (fun K hK => ?_)
        rw [if_pos (by rfl)]
        refine Exists.intro ?_ (And.intro (fun W HW => ?_) (hK _ ?_))
        rotate_left
        · (go_simp; exact A4.out W HW)
        clear hK K
        try simp only [Act.put, List.setIfInBounds_toArray, List.set_cons_zero, List.set_cons_succ]
        refine wpQuiet_step (fun K hK => ?_)
        rw [if_pos (by rfl)]
        refine Exists.intro ?_ (And.intro (fun W HW => ?_) (hK _ ?_))
        rotate_left
        · ((go_simp); all_goals (with_reducible rfl))
        clear hK K
        try simp only [Act.put, List.setIfInBounds_toArray, List.set_cons_zero, List.set_cons_succ]
        refine wpQuiet_step (fun K hK => ?_)
        rw [if_pos (by rfl)]
        refine Exists.intro ?_ (And.intro (fun W HW => ?_) (hK _ ?_))
        rotate_left
        · ((go_simp); all_goals (with_reducible rfl))
        clear hK K
        try simp only [Act.put, List.setIfInBounds_toArray, List.set_cons_zero, List.set_cons_succ]
        refine wpQuiet_nil ?_
        intro wd hCw
        have HID := hid (HCl.out wd hCw)
        clear A1 A2 A3 A4 F1 F2 HC0 HCl HCs hCw
        go_wp2_with fail
        go_roundw
        case rel => exact ⟨k + 1, T', S', v', by omega, by omega, by go_num, by omega, HID.out⟩
        case measure => simp [intOf]; omega
      · go_wp2_with fail
        go_ret
        exact ⟨rfl, hI.below⟩
    · go_wp2_with fail
      go_ret
      exact ⟨rfl, hI.below⟩
theorem ipiplays_walk {w : World} (c : Int) (A : Option Addr) (len cap : Nat) (hlen : len ≤ 9223372036854775807) (Z : Nat → Nat → Int) (hz : IntRows w A len 5 Z) :
    Calls Try.prog 3 #[.int .i64 c, .slice A len cap] w fun e w' => e = .returned (.bool true) ∧ Below w.heap.size w w' := by
  by_cases h : c < 1 ∨ 8 < c
  · exact ipiplays_no c A len cap h
  · exact ipiplays_yes c A len cap (by omega) hlen Z hz
end Go.Proofs.Ytbkjlohlfkokpaa
