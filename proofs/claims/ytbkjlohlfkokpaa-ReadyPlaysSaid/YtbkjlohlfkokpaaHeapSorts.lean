/- HeapSorts: what is put in comes out by keys, of one key in the order in which it was put in; all of it, once: the walk. Whatever keys. -/
import Derived.Test.YtbkjlohlfkokpaaHeapRoom
set_option linter.unusedVariables false
set_option linter.unusedSimpArgs false
namespace Go.Proofs.Ytbkjlohlfkokpaa
open Go.RowKit

/-- By keys, of one key by ids. -/
def ltP (p q : Int × Int) : Prop := p.2 < q.2 ∨ (p.2 = q.2 ∧ p.1 < q.1)
def fillS (z : Nat → Int) : Nat → List (Int × Int)
  | 0 => []
  | i + 1 => insP (((i : Nat) : Int), z i) (fillS z i)
theorem insP_mem {p q : Int × Int} {L : List (Int × Int)} : q ∈ insP p L ↔ q = p ∨ q ∈ L := by
  unfold insP
  simp only [List.mem_append, List.mem_cons, List.mem_filter]
  constructor
  · rintro (⟨h1, _⟩ | rfl | ⟨h1, _⟩)
    · exact .inr h1
    · exact .inl rfl
    · exact .inr h1
  · rintro (rfl | h1)
    · exact .inr (.inl rfl)
    · by_cases h : q.2 ≤ p.2
      · exact .inl ⟨h1, by simpa using h⟩
      · exact .inr (.inr ⟨h1, by simp; omega⟩)
theorem fillS_len (z : Nat → Int) : ∀ i, (fillS z i).length = i
  | 0 => rfl
  | i + 1 => by
    show (insP _ _).length = _
    rw [insP_len, fillS_len z i]
theorem fillS_mem (z : Nat → Int) : ∀ i, ∀ q ∈ fillS z i, ∃ j, j < i ∧ q = (((j : Nat) : Int), z j)
  | 0, q, h => by cases h
  | i + 1, q, h => by
    rcases insP_mem.1 (show q ∈ insP _ _ from h) with rfl | h
    · exact ⟨i, by omega, rfl⟩
    · obtain ⟨j, hj, e⟩ := fillS_mem z i q h
      exact ⟨j, by omega, e⟩
theorem fillS_sorted (z : Nat → Int) : ∀ i, (fillS z i).Pairwise ltP
  | 0 => List.Pairwise.nil
  | i + 1 => by
    have ih := fillS_sorted z i
    show (insP _ _).Pairwise ltP
    unfold insP
    rw [List.pairwise_append, List.pairwise_cons]
    refine ⟨ih.filter _, ⟨fun q hq => ?_, ih.filter _⟩, fun p hp q hq => ?_⟩
    · have h := (List.mem_filter.1 hq).2
      simp at h
      exact .inl h
    · obtain ⟨hp1, hp2⟩ := List.mem_filter.1 hp
      simp at hp2
      rcases List.mem_cons.1 hq with rfl | hq
      · obtain ⟨j, hj, rfl⟩ := fillS_mem z i p hp1
        by_cases e : z j < z i
        · exact .inl e
        · exact .inr ⟨by simp at hp2 ⊢; omega, by simp; omega⟩
      · have h := (List.mem_filter.1 hq).2
        simp at h
        exact .inl (by omega)
theorem fillS_push (z : Nat → Int) {i : Nat} (hi : i < 256) : pushP 256 (fillS z i) i (z i) = (0, fillS z (i + 1)) := by
  have hn : ((i : Nat) : Int) ∉ fsts (fillS z i) := fun hm => by
    obtain ⟨q, hq, e⟩ := List.mem_map.1 hm
    obtain ⟨j, hj, rfl⟩ := fillS_mem z i q hq
    simp at e
    omega
  unfold pushP
  rw [if_neg (by omega), if_neg hn, if_neg (by rw [fillS_len]; omega)]
  rfl
theorem HW.mark {w wx w' : World} {h room T T' g n : Nat} {Q : Nat → Prop} {L L' : List (Int × Int)} {f : Nat → Bool} (H : HW w wx h Q room T L) (M : Marks wx g n f) (hq : ¬ Q g) (hB : HBehind wx w.heap.size h Q room T' L' w') :
    ∃ Q', HW w w' h Q' room T' L' ∧ Marks w' g n f ∧ ¬ Q' g := by
  obtain ⟨Q', hH, hk⟩ := H.step hB
  obtain ⟨C, h1, _⟩ := M.ex
  exact ⟨Q', hH, M.kept (fun o ho => (hk g o ho hq).1), (hk g _ h1 hq).2⟩
theorem HW.one {w wx : World} {h room T g : Nat} {Q : Nat → Prop} {L : List (Int × Int)} (H : HW w wx h Q room T L) (hn : ¬ Q g) (lo : w.heap.size ≤ g) (j : Nat) (v : Value) : HW w (wx.setCell ⟨g, j, none⟩ v) h Q room T L :=
  H.kept (P := One g) ((Fr.refl _ _).one j _) (fun k hk e => hn (by rw [show g = k from e.symm]; exact hk)) (fun k hk => by rw [show k = g from hk]; exact lo)
/-- What is still in the heap, what came last. -/
structure Rest (z : Nat → Int) (n i : Nat) (last : Int) (f : Nat → Bool) (R : List (Int × Int)) : Prop where
  len : R.length + i = n
  mem : ∀ q ∈ R, ∃ j, j < n ∧ q = (((j : Nat) : Int), z j) ∧ f j = false
  sorted : R.Pairwise ltP
  last : last = -1 ∨ ∃ lt : Nat, lt < n ∧ last = lt ∧ ∀ q ∈ R, ltP ((lt : Int), z lt) q
theorem Rest.first (z : Nat → Int) (n : Nat) : Rest z n 0 (-1) (fun _ => false) (fillS z n) :=
  ⟨by rw [fillS_len]; rfl, fun q hq => by obtain ⟨j, hj, e⟩ := fillS_mem z n q hq; exact ⟨j, hj, e, rfl⟩, fillS_sorted z n, .inl rfl⟩
theorem Rest.step {z : Nat → Int} {n i : Nat} {last : Int} {f : Nat → Bool} {R : List (Int × Int)} (h : Rest z n i last f R) (hi : i < n) :
    ∃ j R', j < n ∧ R = (((j : Nat) : Int), z j) :: R' ∧ f j = false ∧ Rest z n (i + 1) j (fun t => if t = j then true else f t) R' ∧
      (last = -1 ∨ ∃ lt : Nat, lt < n ∧ last = lt ∧ (z lt < z j ∨ (z lt = z j ∧ lt < j))) := by
  rcases R with _ | ⟨p, R'⟩
  · have := h.len; simp at this; omega
  · obtain ⟨j, hj, rfl, hf⟩ := h.mem p (by simp)
    obtain ⟨hs1, hs2⟩ := List.pairwise_cons.1 h.sorted
    have hl := h.len
    simp at hl
    refine ⟨j, R', hj, rfl, hf, ⟨by omega, fun q hq => ?_, hs2, .inr ⟨j, hj, rfl, fun q hq => hs1 q hq⟩⟩, ?_⟩
    · obtain ⟨t, ht, rfl, hft⟩ := h.mem q (by simp [hq])
      refine ⟨t, ht, rfl, ?_⟩
      have hne := hs1 _ hq
      have : t ≠ j := fun e => by subst e; unfold ltP at hne; omega
      simp [this, hft]
    · rcases h.last with e | ⟨lt, h1, h2, h3⟩
      · exact .inl e
      · have h4 := h3 _ (List.mem_cons_self)
        unfold ltP at h4
        exact .inr ⟨lt, h1, h2, by simp at h4; omega⟩
open Go.WideShapes Go.ChangeShapes in
theorem ints_of_slice_cap {H : Type} {enc : TypeId × Value → H} {P : Program} {w : World} {base : Nat} {spare : Nat → Bool} {held : Bool} {t e : TypeId} {fuel : Nat} {A : Option Addr} {len cap : Nat} {x : DataW H × List MemPlace}
    (ht : P.underlying t = some (.slice e)) (he : P.underlying e = some (.int .i64)) (hC : P.cellsOf e = 1) (h : DataW.trod enc P w base spare held fuel t [.slice A len cap] = some x) :
    len ≤ maxLen ∧ len ≤ cap ∧ ∃ z, Ints w A len z := by
  rcases open_ints ht he hC h with ⟨hcs, _⟩ | ⟨a, l, c, zs, hcs, _, hl, hm, hz, _, hcell, hwz⟩
  · simp at hcs
    obtain ⟨rfl, rfl, rfl⟩ := hcs
    exact ⟨Nat.zero_le _, Nat.zero_le _, fun _ => 0, fun k hk => absurd hk (Nat.not_lt_zero k)⟩
  · simp at hcs
    obtain ⟨rfl, rfl, rfl⟩ := hcs
    refine ⟨Nat.le_trans hl hm, hl, fun k => zs.getD k 0, fun k hk => ?_⟩
    have hlz : len ≤ zs.length := by rw [hz]; split <;> omega
    have h0 := hcell k (by omega)
    obtain ⟨b, o, rfl, hlt⟩ := at_zero (hcell 0 (by omega))
    have hb := bounds_i64 (hwz (zs.getD k 0) (by simp [List.getD, List.getElem?_eq_getElem (show k < zs.length by omega)]))
    exact ⟨b, o, rfl, hlt, by rw [Go.WideShapes.add_plain] at h0; exact h0, hb.1, hb.2⟩
theorem ints_wr {w wr : World} {A : Option Addr} {len : Nat} {z : Nat → Int} (h : Ints w A len z) (hb : Below w.heap.size w wr) {k : Nat} (hk : k < len) : ∃ b o, A = some ⟨b, o, none⟩ ∧ wr.cell? ⟨b, o + k, none⟩ = some (.int .i64 (z k)) ∧ -9223372036854775808 ≤ z k ∧ z k ≤ 9223372036854775807 := by
  obtain ⟨b, o, e, h1, h2, h3⟩ := h k hk
  exact ⟨b, o, e, (hb.cell h1).trans h2, h3⟩
attribute [local irreducible] pushP insP offP fillS
set_option maxRecDepth 100000 in
set_option maxHeartbeats 3200000 in
theorem heapsorts_walk {w : World} (A : Option Addr) (len cap : Nat) (hlen : len ≤ 9223372036854775807) (hcap : len ≤ cap) (z : Nat → Int) (hz : Ints w A len z) :
    Calls Try.prog 8 #[.slice A len cap] w fun e w' => e = .returned (.bool true) ∧ Below w.heap.size w w' := by
  have HZ := hid hz
  clear hz
  obtain ⟨n, hn⟩ : ∃ n, min len 200 = n := ⟨_, rfl⟩
  have hnb : n ≤ len ∧ n ≤ 200 := by omega
  have hmake := make_bools n (by omega)
  have HN := hid hn
  go_enter Try.func8, Try.ntmps8
  clear hn
  go_wp2_with fail
  refine heapex_any.mono ?_
  rintro e w1 ⟨rfl, hb1⟩
  go_wp2_with fail
  refine (heap_new 256 (by omega)).mono ?_
  rintro e w2 ⟨h, Q0, rfl, h0, hb2⟩
  have H0 := hid (show HW w w2 h Q0 256 0 (fillS z 0) from ⟨below_then hb1 hb2, by unfold fillS; exact h0.weak hb1.size⟩)
  clear h0 hb1 hb2
  go_upto_region 6 with fail
  have hmin : (min (len : Int) 200).toNat = n := by have := HN.out; omega
  rw [hmin]
  generalize min (len : Int) 200 = mm at *
  clear hmin HN
  go_wp2_with fail
  go_loopw [6] (fun i wr => ∃ (k : Nat) (Q : Nat → Prop), k ≤ n ∧ i = .int .i64 k ∧ HW w wr h Q 256 k (fillS z k)) (fun i _ => n - (intOf i).toNat)
  case atStart => exact ⟨0, Q0, by omega, rfl, H0.out⟩
  case round =>
    obtain ⟨k, Q, hk1, rfl, HH⟩ := hrel
    by_cases hlt : k < n
    · obtain ⟨ab, ao, rfl, c0, hz0, hz1⟩ := ints_wr HZ.out HH.below (k := k) (by omega)
      have HH := hid HH
      have HP := hid (fillS_push z (i := k) (by omega))
      generalize z k = zk at *
      go_wp2_with fail
      refine (heap_push HH.out.heap (t := k) (k := zk) (by omega) (by omega) HP.out).mono ?_
      rintro e w3 ⟨rfl, hB⟩
      obtain ⟨Q1, hH1, -⟩ := HH.out.step hB
      have HH1 := hid hH1
      clear hB hH1
      go_wp2_with fail
      go_roundw
      case rel => exact ⟨k + 1, Q1, by omega, by go_num, HH1.out⟩
      case measure => simp [intOf]; omega
    · obtain rfl : k = n := by omega
      have HH := hid HH
      go_wp2_with fail
      have hb0 : Below wr.heap.size wr (wr.alloc (.cells (List.replicate k (.bool false)).toArray 4)) := (Below.refl _ wr).alloc (Nat.le_refl _) _
      have HM1 := hid (Marks.made wr k)
      have HH1 := hid (HH.out.later hb0)
      have HQ1 := hid (show ¬ Q wr.heap.size from fun hq => Nat.lt_irrefl _ (HH.out.heap.lt _ hq).2)
      have HLO := hid HH.out.below.size
      have HR1 := hid (Rest.first z k)
      generalize wr.heap.size = g at *
      clear hb0 HH
      go_loopw [8, 9] (fun y i wr => ∃ (j : Nat) (last : Int) (f : Nat → Bool) (R : List (Int × Int)) (Q : Nat → Prop), j ≤ k ∧ y = .int .i64 last ∧ i = .int .i64 j ∧ HW w wr h Q 256 (k + j) R ∧ Marks wr g k f ∧ ¬ Q g ∧ Hid (Rest z k j last f R)) (fun _ i _ => k - (intOf i).toNat)
      case atStart => exact ⟨0, -1, _, _, Q, by omega, rfl, rfl, HH1.out, HM1.out, HQ1.out, HR1⟩
      case round =>
        obtain ⟨j, last, f, R, Q2, hj1, rfl, rfl, HJ, MJ, QJ, RJ⟩ := hrel
        have HJ := hid HJ
        have MJ := hid MJ
        have QJ := hid QJ
        by_cases hlt2 : j < k
        · obtain ⟨t, R', ht, rfl, hft, hR', hl⟩ := RJ.out.step hlt2
          have HR' := hid hR'
          have HFT := hid hft
          have hl2 := hid hl
          clear hR' hft hl
          go_wp2_with fail
          refine (heap_pop HJ.out.heap (by omega)).mono ?_
          rintro e w3 ⟨rfl, hB⟩
          obtain ⟨Q3, hH3, hM3, hq3⟩ := HJ.out.mark MJ.out QJ.out hB
          have b0 := hM3.cell ht
          rw [HFT.out] at b0
          have f0 := hM3.free t
          obtain ⟨ab, ao, rfl, c0, hz0, hz1⟩ := ints_wr HZ.out hH3.below (k := t) (by omega)
          have HH3 := hid (hH3.one hq3 HLO.out t (.bool true))
          have HM3 := hid (hM3.set ht true (f' := fun i => if i = t then true else f i) (fun i _ => rfl))
          have HQ3 := hid hq3
          have hbel := hid hH3.below
          clear hM3 hq3 hB hH3
          rw [show headP ((((t : Nat) : Int), z t) :: R') = ((t : Int), z t) from rfl, show (List.isEmpty ((((t : Nat) : Int), z t) :: R')) = false from rfl]
          rcases hl2.out with rfl | ⟨lt, hlt3, rfl, ho⟩
          · generalize z t = zt at *
            go_wp2_with fail
            go_roundw
            case rel => exact ⟨j + 1, t, _, R', Q3, by omega, rfl, by go_num, by rw [show k + (j + 1) = k + j + 1 by omega]; exact HH3.out, HM3.out, HQ3.out, HR'⟩
            case measure => simp [intOf]; omega
          · obtain ⟨ab', ao', e, c1, hy0, hy1⟩ := ints_wr HZ.out hbel.out (k := lt) (by omega)
            injection e with e
            injection e with e1 e2
            subst e1 e2
            generalize z t = zt at *
            generalize z lt = zl at *
            rcases ho with ho | ⟨rfl, ho⟩
            · have hne : (zl == zt) = false := beq_eq_false_iff_ne.2 (by omega)
              go_wp2_with fail
              go_roundw
              case rel => exact ⟨j + 1, t, _, R', Q3, by omega, rfl, by go_num, by rw [show k + (j + 1) = k + j + 1 by omega]; exact HH3.out, HM3.out, HQ3.out, HR'⟩
              case measure => simp [intOf]; omega
            · go_wp2_with fail
              go_roundw
              case rel => exact ⟨j + 1, t, _, R', Q3, by omega, rfl, by go_num, by rw [show k + (j + 1) = k + j + 1 by omega]; exact HH3.out, HM3.out, HQ3.out, HR'⟩
              case measure => simp [intOf]; omega
        · have hR : R = [] := List.length_eq_zero_iff.1 (by have := RJ.out.len; omega)
          subst hR
          go_wp2_with fail
          refine (heap_pop HJ.out.heap (by omega)).mono ?_
          rintro e w3 ⟨rfl, hB⟩
          obtain ⟨Q3, hH3, -⟩ := HJ.out.step hB
          have HH3 := hid hH3
          clear hB hH3
          go_wp2_with fail
          refine (heap_len HH3.out.heap).mono ?_
          rintro e w' ⟨rfl, rfl⟩
          go_wp2_with fail
          go_ret
          exact ⟨rfl, HH3.out.below⟩
end Go.Proofs.Ytbkjlohlfkokpaa
