/- Joined: DelFunc. -/
import Derived.Test.YtppildaahmlfmaaQ33
set_option linter.unusedVariables false
set_option linter.unusedSimpArgs false
/- slices.DeleteFunc at a row of parts that a call owns, with Rank's first closure (contract). -/
set_option linter.unusedVariables false
set_option linter.unusedSimpArgs false
namespace Go.Proofs.Ytppildaahmlfmaa
open Go.RowKit

def keepL (pol : Int) (l : List Pt) : List Pt := l.filter fun x => !outB pol x
theorem keepL_snoc (pol : Int) (l : List Pt) (x : Pt) : keepL pol (l ++ [x]) = if outB pol x = true then keepL pol l else keepL pol l ++ [x] := by
  unfold keepL
  rw [List.filter_append]
  cases h : outB pol x <;> simp [h]
theorem keepL_len (pol : Int) (l : List Pt) : (keepL pol l).length ≤ l.length := List.length_filter_le _ _
/-- The row while the end is worked off: i kept of the first j, the rest as it was. -/
structure DelInv (pol : Int) (l m : List Pt) (i j : Nat) : Prop where
  len : m.length = l.length
  lt : i < j
  jl : j ≤ l.length
  head : m.take i = keepL pol (l.take j)
  ilen : i = (keepL pol (l.take j)).length
  tail : ∀ k, j ≤ k → m[k]? = l[k]?
section
variable {pol : Int} {l m : List Pt} {i j : Nat} {x : Pt}
theorem DelInv.drop (H : DelInv pol l m i j) (hx : l[j]? = some x) (ho : outB pol x = true) : DelInv pol l m i (j + 1) := by
  have hj := (List.getElem?_eq_some_iff.1 hx).1
  have e : keepL pol (l.take (j + 1)) = keepL pol (l.take j) := by rw [take_next hx, keepL_snoc, if_pos ho]
  exact ⟨H.len, by have := H.lt; omega, by omega, by rw [e]; exact H.head, by rw [e]; exact H.ilen, fun k hk => H.tail k (by omega)⟩
theorem DelInv.keep (H : DelInv pol l m i j) (hx : l[j]? = some x) (ho : outB pol x = false) : DelInv pol l (m.set i x) (i + 1) (j + 1) := by
  have hj := (List.getElem?_eq_some_iff.1 hx).1
  have hi := H.lt
  have hm := H.len
  have e : keepL pol (l.take (j + 1)) = keepL pol (l.take j) ++ [x] := by rw [take_next hx, keepL_snoc, if_neg (by rw [ho]; simp)]
  refine ⟨by rw [List.length_set]; exact hm, by omega, by omega, ?_, ?_, fun k hk => ?_⟩
  · rw [e, take_next (x := x) (List.getElem?_set_self (by omega)), List.take_set_of_le (Nat.le_refl _), H.head]
  · rw [e, List.length_append, ← H.ilen]; rfl
  · rw [List.getElem?_set_ne (by omega)]; exact H.tail k (by omega)
theorem DelInv.start {r : Nat} (hx : l[r]? = some x) (ho : outB pol x = true) (h : ∀ (i : Nat) y, i < r → l[i]? = some y → outB pol y = false) : DelInv pol l l r (r + 1) := by
  have hr := (List.getElem?_eq_some_iff.1 hx).1
  have e : keepL pol (l.take r) = l.take r := by
    unfold keepL
    rw [List.filter_eq_self]
    intro y hy
    obtain ⟨k, hk⟩ := List.mem_iff_getElem?.1 hy
    rw [List.getElem?_take] at hk
    split at hk
    · rw [h k y (by assumption) hk]; rfl
    · cases hk
  have e2 : keepL pol (l.take (r + 1)) = l.take r := by rw [take_next hx, keepL_snoc, if_pos ho, e]
  exact ⟨rfl, by omega, by omega, e2.symm, by rw [e2, List.length_take]; omega, fun k _ => rfl⟩
end
section
variable {w : World} {base : Nat}
set_option maxRecDepth 100000 in
set_option maxHeartbeats 3200000 in
theorem delfunc_any (l : List Pt) (g n cap B : Nat) (pol : Int) (hown : w.ownsRow base 67 7 (.slice (some ⟨g, 0, none⟩) n cap) n (flat encPt l)) (hn : n = l.length) (hb : B < w.heap.size) (hgB : g ≠ B) (h : w.cell? ⟨B, 1, none⟩ = some (.int .i64 pol)) :
    Calls Try.prog 29 #[.slice (some ⟨g, 0, none⟩) n cap, .func (.func 30) #[] #[.pointer (some ⟨B, 0, none⟩)]] w fun e w' =>
      ∃ m c, e = .returned (.slice (some ⟨g, 0, none⟩) m c) ∧ w'.ownsRow base 67 7 (.slice (some ⟨g, 0, none⟩) m c) m (flat encPt (keepL pol l)) ∧ m = (keepL pol l).length ∧ Fr (One g) w w' := by
  have hrow : Rowp 7 ptR w (.slice (some ⟨g, 0, none⟩) n cap) l := Rowp.of_own encPt_len hown hn (by decide) (fun x _ => rfl)
  have hnm : n ≤ 9223372036854775807 := by have := hrow.room; unfold maxLen at this; omega
  have HIX := hid (idx_any l (some ⟨g, 0, none⟩) n cap B pol hrow hb h)
  have HN := hid hn
  have HO := hid hown
  have HBL := hid hb
  have HC := hid h
  clear hrow hown hn hb h
  go_enter Try.func29, Try.ntmps29
  go_wp2_with fail
  refine HIX.out.mono ?_
  rintro e w1 ⟨r, rfl, hfo, hb1⟩
  have HF1 := hid (Fr.of_below (S := One g) hb1)
  have HO1 := hid (own_kept HO.out (fr0 hb1) (fun _ _ h => h))
  clear hb1
  rcases hfo with ⟨rfl, hall⟩ | ⟨r', x, rfl, hx, hox, hbef⟩
  · have HK := hid (show keepL pol l = l from by unfold keepL; rw [List.filter_eq_self]; intro y hy; rw [hall y hy]; rfl)
    clear hall
    go_wp2_with fail
    go_ret
    exact ⟨n, cap, rfl, by rw [HK.out]; exact HO1.out, by rw [HK.out]; exact HN.out, HF1.out⟩
  · have HDI := hid (DelInv.start hx hox hbef)
    have hrn : r' < n := by have := (List.getElem?_eq_some_iff.1 hx).1; have := HN.out; omega
    have hrb : ((r' : Int) == -1) = false := beq_eq_false_iff_ne.2 (by omega)
    clear hx hox hbef
    go_wp2_with fail
    go_loopw [5, 6] (fun iv jv wr => ∃ (i j : Nat) (m : List Pt), iv = .int .i64 i ∧ jv = .int .i64 j ∧ i < j ∧ j ≤ n ∧ Hid (DelInv pol l m i j) ∧ Hid (wr.ownsRow base 67 7 (.slice (some ⟨g, 0, none⟩) n cap) n (flat encPt m)) ∧ Hid (Fr (One g) w wr)) (fun _ jv _ => n - (intOf jv).toNat)
    case atStart => exact ⟨r', r' + 1, l, rfl, by go_num, by omega, by omega, HDI, HO1, HF1⟩
    case round =>
      obtain ⟨i, j, m, rfl, rfl, hij, hjn, HDv, HOr, HFr⟩ := hrel
      by_cases hlt : j < n
      case pos =>
        obtain ⟨x, hx⟩ : ∃ x, l[j]? = some x := ⟨_, List.getElem?_eq_getElem (by have := HN.out; omega)⟩
        have hmx : m[j]? = some x := by rw [HDv.out.tail j (Nat.le_refl _)]; exact hx
        have hcell : ∀ (k : Nat) (c : Value), (encPt x)[k]? = some c → wr.cell? ⟨g, j * 7 + k, none⟩ = some c := fun k c hk => by
          obtain ⟨g', e2, hc⟩ := row_cell encPt_len HOr.out hmx hk
          injection e2 with e2
          injection e2 with e2
          subst e2
          exact hc
        have HX := hid hx
        have HMX := hid hmx
        have hglt : g < wr.heap.size := (HOr.out.lt g rfl).2
        have hpol : wr.cell? ⟨B, 1, none⟩ = some (.int .i64 pol) := HFr.out.cell HC.out (fun e => hgB e.symm)
        have hBw : B < wr.heap.size := Nat.lt_of_lt_of_le HBL.out HFr.out.size
        have HDE := hid (fun W (k : Below wr.heap.size wr W) => del_any (w := W) x B pol (Nat.lt_of_lt_of_le hBw k.size) ((k.cell (p := ⟨B, 1, none⟩) hBw).trans hpol))
        obtain ⟨v, hv⟩ : ∃ v, outB pol x = v := ⟨_, rfl⟩
        have HV := hid hv
        rw [show (x.p.tight || decide (pol = 2)) = v from hv] at HDE
        obtain ⟨⟨pc, pb, pd, pp, ti⟩, tk, kk⟩ := x
        unfold encPt at hcell HDE
        simp only at hcell HDE
        have e0 : wr.cell? ⟨g, j * 7, none⟩ = some (.int .i64 pc) := by have := hcell 0 (.int .i64 pc) rfl; simpa using this
        have e1 : wr.cell? ⟨g, j * 7 + 1, none⟩ = some (.int .i64 pb) := by have := hcell 1 (.int .i64 pb) rfl; simpa using this
        have e2 : wr.cell? ⟨g, j * 7 + 2, none⟩ = some (.int .i64 pd) := by have := hcell 2 (.int .i64 pd) rfl; simpa using this
        have e3 : wr.cell? ⟨g, j * 7 + 3, none⟩ = some (.int .i64 pp) := by have := hcell 3 (.int .i64 pp) rfl; simpa using this
        have e4 : wr.cell? ⟨g, j * 7 + 4, none⟩ = some (.bool ti) := by have := hcell 4 (.bool ti) rfl; simpa using this
        have e5 : wr.cell? ⟨g, j * 7 + 5, none⟩ = some (.int .i64 tk) := by have := hcell 5 (.int .i64 tk) rfl; simpa using this
        have e6 : wr.cell? ⟨g, j * 7 + 6, none⟩ = some (.int .i64 kk) := by have := hcell 6 (.int .i64 kk) rfl; simpa using this
        clear hx hmx hcell hpol hv
        go_upto_region 8 with fail
        obtain ⟨D, hD⟩ : ∃ D, D = wr.heap.size := ⟨_, rfl⟩
        rw [← hD]
        generalize hw3 : wr.alloc (.cells #[.int .i64 pc, .int .i64 pb, .int .i64 pd, .int .i64 pp, .bool ti, .int .i64 tk, .int .i64 kk] 67) = w3
        have hbel : Below wr.heap.size wr w3 := by rw [← hw3]; exact below_new (Below.refl _ _) _
        have hblk : w3.heap[D]? = some (.cells #[.int .i64 pc, .int .i64 pb, .int .i64 pd, .int .i64 pp, .bool ti, .int .i64 tk, .int .i64 kk] 67 (0, 0)) := by rw [← hw3, hD]; exact blk_new _ _
        have f0 : w3.cell? ⟨D, 0, none⟩ = some (.int .i64 pc) := blk_cell hblk 0
        have f1 : w3.cell? ⟨D, 1, none⟩ = some (.int .i64 pb) := blk_cell hblk 1
        have f2 : w3.cell? ⟨D, 2, none⟩ = some (.int .i64 pd) := blk_cell hblk 2
        have f3 : w3.cell? ⟨D, 3, none⟩ = some (.int .i64 pp) := blk_cell hblk 3
        have f4 : w3.cell? ⟨D, 4, none⟩ = some (.bool ti) := blk_cell hblk 4
        have f5 : w3.cell? ⟨D, 5, none⟩ = some (.int .i64 tk) := blk_cell hblk 5
        have f6 : w3.cell? ⟨D, 6, none⟩ = some (.int .i64 kk) := blk_cell hblk 6
        have HBE := hid hbel
        have HBK := hid hblk
        clear hw3 hD hbel hblk e0 e1 e2 e3 e4 e5 e6
        go_wp2_with fail
        refine (HDE.out _ HBE.out).mono ?_
        rintro e w4 ⟨rfl, hb4⟩
        have HD4 := hid ((fr0 hb4).blk HBK.out (fun h => h))
        have HB4 := hid (below_then HBE.out hb4)
        have HF4 := hid (HFr.out.andBelow HB4.out)
        have HO4 := hid (own_kept HOr.out (fr0 HB4.out) (fun _ _ h => h))
        clear f0 f1 f2 f3 f4 f5 f6 hb4
        cases v
        case true =>
          have HDn := hid (HDv.out.drop HX.out HV.out)
          go_wp2_with fail
          go_roundw
          case rel => exact ⟨i, j + 1, m, rfl, by go_num, by omega, by omega, HDn, HO4, HF4⟩
          case measure => simp [intOf]; omega
        case false =>
          have HDn := hid (HDv.out.keep HX.out HV.out)
          have f0 : w4.cell? ⟨D, 0, none⟩ = some (.int .i64 pc) := blk_cell HD4.out 0
          have f1 : w4.cell? ⟨D, 1, none⟩ = some (.int .i64 pb) := blk_cell HD4.out 1
          have f2 : w4.cell? ⟨D, 2, none⟩ = some (.int .i64 pd) := blk_cell HD4.out 2
          have f3 : w4.cell? ⟨D, 3, none⟩ = some (.int .i64 pp) := blk_cell HD4.out 3
          have f4 : w4.cell? ⟨D, 4, none⟩ = some (.bool ti) := blk_cell HD4.out 4
          have f5 : w4.cell? ⟨D, 5, none⟩ = some (.int .i64 tk) := blk_cell HD4.out 5
          have f6 : w4.cell? ⟨D, 6, none⟩ = some (.int .i64 kk) := blk_cell HD4.out 6
          obtain ⟨y, hy⟩ : ∃ y, m[i]? = some y := ⟨_, List.getElem?_eq_getElem (by have := HDv.out.len; have := HN.out; omega)⟩
          have HO5 := hid (own_part HO4.out hy (by rw [HDv.out.len]; exact HN.out) ⟨⟨pc, pb, pd, pp, ti⟩, tk, kk⟩)
          have HF5 := hid ((((((((HF4.out.one (i * 7) (.int .i64 pc)).one (i * 7 + 1) (.int .i64 pb)).one (i * 7 + 2) (.int .i64 pd)).one (i * 7 + 3) (.int .i64 pp)).one (i * 7 + 4) (.bool ti)).one (i * 7 + 5) (.int .i64 tk)).one (i * 7 + 6) (.int .i64 kk)))
          have hcl : ∀ k, k < 7 → ∃ u, w4.cell? ⟨g, i * 7 + k, none⟩ = some u := fun k hk => by
            obtain ⟨g', e2, hc⟩ := row_cell encPt_len HO4.out hy (j := k) (u := (encPt y)[k]'(by rw [encPt_len]; exact hk)) (List.getElem?_eq_getElem _)
            injection e2 with e2
            injection e2 with e2
            subst e2
            exact ⟨_, hc⟩
          obtain ⟨u0, r0⟩ := hcl 0 (by decide)
          obtain ⟨u1, r1⟩ := hcl 1 (by decide)
          obtain ⟨u2, r2⟩ := hcl 2 (by decide)
          obtain ⟨u3, r3⟩ := hcl 3 (by decide)
          obtain ⟨u4, r4⟩ := hcl 4 (by decide)
          obtain ⟨u5, r5⟩ := hcl 5 (by decide)
          obtain ⟨u6, r6⟩ := hcl 6 (by decide)
          rw [Nat.add_zero] at r0
          have hfz := own_free HO4.out
          have hin : i < n := by omega
          clear hy hcl
          go_wp2_with fail
          go_roundw
          case rel => exact ⟨i + 1, j + 1, _, by go_num, by go_num, by omega, by omega, HDn, HO5, HF5⟩
          case measure => simp [intOf]; omega
      case neg =>
        obtain rfl : j = n := by omega
        have hlj : l.take j = l := by rw [HN.out, List.take_length]
        have hil : i = (keepL pol l).length := by have := HDv.out.ilen; rw [hlj] at this; exact this
        have hhd : m.take i = keepL pol l := by have := HDv.out.head; rw [hlj] at this; exact this
        obtain ⟨g', cap', cur, hv, hbg, hg, hcap, hcm, hsz, htk⟩ := own_shape HOr.out (by omega)
        injection hv with e1 _ e2
        injection e1 with e1
        injection e1 with e1
        subst e1
        subst e2
        obtain ⟨cur', hcl, hcs, hct⟩ := run_clear_parts (ty := 0) (c := cap - i) hg hij (by rw [hsz]; exact Nat.mul_le_mul_right 7 hcap)
        have HOF : Hid ((wr.setRow g cur').ownsRow base 67 7 (.slice (some ⟨g, 0, none⟩) i cap) i (flat encPt (keepL pol l))) := by
          refine hid ⟨by rw [flat_length encPt_len, ← hil], .inr ⟨g, cap, cur', rfl, hbg, setRow_heap wr g _ _ _ _ hg, by omega, hcm, by rw [hcs]; exact hsz, ?_⟩⟩
          rw [hct, ← hhd]
          have : cur.toList.take (i * 7) = (cur.toList.take (j * 7)).take (i * 7) := by rw [List.take_take, Nat.min_eq_left (Nat.mul_le_mul_right 7 (Nat.le_of_lt hij))]
          rw [this, htk]
          exact flat_take encPt_len m i
        have HFF := hid (HFr.out.trans (fr_setRow wr g cur') (fun x hx => .inl hx))
        have HIL := hid hil
        have hic : i ≤ cap := by omega
        clear hlj hil hhd hg hsz htk hcs hct
        go_wp2_with fail
        go_ret
        exact ⟨i, cap, rfl, HOF.out, HIL.out, HFF.out⟩
end
end Go.Proofs.Ytppildaahmlfmaa
