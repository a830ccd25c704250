/- Joined: Resp2, Terms1, Resp3, Resp4, Dem, Dem2, Dem3, Dem4. -/
import Derived.Sort.CutIn
import Derived.Test.YtppildaahmlfmaaQ03
import Derived.Test.YtppildaahmlfmaaQ10
import Derived.Test.YtppildaahmlfmaaQ13
import Derived.Test.YtppildaahmlfmaaQ08
import Derived.Test.YtppildaahmlfmaaQ11
set_option linter.unusedVariables false
set_option linter.unusedSimpArgs false
/- Package response: the iterator over what there may be to do (contracts). -/
set_option linter.unusedVariables false
set_option linter.unusedSimpArgs false
namespace Go.Proofs.Ytppildaahmlfmaa
open Go.RowKit Go.Shelf
attribute [local go_sem] Oper.semAt_some

@[local go_sem] theorem run_store_func {P : Program} {w : World} {a : Addr} {m : Mode} (fn : Fn) (x y : Array Value) : (store a (.func fn x y) m).run P w = stored P w a (.func fn x y) m := run_store P w a _ m rfl
/-- A pair of a list. -/
abbrev DoOf (L : List (Int × Int)) := { p : Int × Int // p ∈ L }
/-- How often, how much: as two arguments. -/
def doA {L : List (Int × Int)} (x : DoOf L) : Array Value := #[.int .i64 x.1.1, .int .i64 x.1.2]
theorem attach_at {L : List (Int × Int)} {k : Nat} {y : Int × Int} (h : L[k]? = some y) : ∃ x : DoOf L, x.1 = y ∧ L.attach.take (k + 1) = L.attach.take k ++ [x] ∧ k < L.length := by
  have hlt := (List.getElem?_eq_some_iff.1 h).1
  obtain ⟨x, hx⟩ : ∃ x, L.attach[k]? = some x := ⟨_, List.getElem?_eq_getElem (by rw [List.length_attach]; exact hlt)⟩
  refine ⟨x, ?_, take_next hx, hlt⟩
  have : (L.attach[k]?).map Subtype.val = L[k]? := by rw [← List.getElem?_map, List.attach_map_subtype_val]
  rw [hx, h] at this
  simpa using this
def ldC (x : Ld) : Array Value := #[.int .i64 x.work, .int .i64 x.per, .int .i64 x.jit]
theorem cell_lt {w : World} {B i : Nat} {v : Value} (h : w.cell? ⟨B, i, none⟩ = some v) : B < w.heap.size := by
  cases e : w.heap[B]? with
  | none => simp [World.cell?, e] at h
  | some o => exact blk_lt e
section
variable {w : World}
set_option maxRecDepth 100000 in
theorem often_any (x : Ld) (hx : LdOk x) (n : Int) (hn : 0 ≤ n ∧ n ≤ 4611686018427387904) (B : Nat) (h : w.cell? ⟨B, 0, none⟩ = some (.int .i64 n)) :
    Calls Try.prog 98 #[ldV x, .pointer (some ⟨B, 0, none⟩)] w fun e w' => e = .returned (.int .i64 (often n x)) ∧ w' = w.alloc (.cells (ldC x) 118) := by
  obtain ⟨a, b, c⟩ := x
  have h1 := hx.p
  have h2 := hx.j
  unfold ldV ldC
  simp only at h1 h2 ⊢
  have hBl : B < w.heap.size := cell_lt h
  have hq := blk_new w (.cells #[.int .i64 a, .int .i64 b, .int .i64 c] 118)
  have l1 : (w.alloc (.cells #[.int .i64 a, .int .i64 b, .int .i64 c] 118)).cell? ⟨w.heap.size, 1, none⟩ = some (.int .i64 b) := blk_cell hq 1
  have l2 : (w.alloc (.cells #[.int .i64 a, .int .i64 b, .int .i64 c] 118)).cell? ⟨w.heap.size, 2, none⟩ = some (.int .i64 c) := blk_cell hq 2
  have l0 : (w.alloc (.cells #[.int .i64 a, .int .i64 b, .int .i64 c] 118)).cell? ⟨B, 0, none⟩ = some (.int .i64 n) := ((below_new (Below.refl w.heap.size w) _).cell (p := ⟨B, 0, none⟩) hBl).trans h
  have e1 : IntKind.i64.wrap (n + c) = n + c := wraps_i64 _ (by omega) (by omega)
  have e2 : IntKind.i64.wrap (n + c + b) = n + c + b := wraps_i64 _ (by omega) (by omega)
  have e3 : IntKind.i64.wrap (n + c + b - 1) = n + c + b - 1 := wraps_i64 _ (by omega) (by omega)
  have h4 := cdiv_le (a := n + c) (b := b) (by omega) h1.1
  have h5 := cdiv_nonneg (a := n + c) (b := b) (by omega) h1.1
  have HO := hid (show often n ⟨a, b, c⟩ = (n + c + b - 1) / b from rfl)
  unfold cdiv at h4 h5
  obtain ⟨q, hq2⟩ : ∃ q, (n + c + b - 1) / b = q := ⟨_, rfl⟩
  have hq3 : (n + c + b - 1).tdiv b = q := by rw [← hq2]; exact Int.tdiv_eq_ediv_of_nonneg (by omega)
  rw [hq2] at h4 h5 HO
  clear hx h hq
  go_enter Try.func98, Try.ntmps98
  go_wp2_with fail
  go_ret
  exact ⟨by rw [HO.out]; rfl, rfl⟩
/-- The boxes that parts lays. -/
def dW (w : World) (rel n : Int) (v1 v2 : Value) : World :=
  ((((w.alloc (.cells #[.int .i64 rel] 3)).alloc (.cells #[v1] 116)).alloc (.cells #[v2] 116)).alloc (.cells #[.int .i64 n] 3)).alloc (.cells #[.func (.func 98) #[] #[.pointer (some ⟨w.heap.size + 1 + 1 + 1, 0, none⟩)]] 148)
set_option maxRecDepth 100000 in
theorem bparts_any (rel n : Int) (A1 A2 : Option Addr) (n1 c1 n2 c2 : Nat) : Calls Try.prog 91 #[.int .i64 rel, .slice A1 n1 c1, .slice A2 n2 c2, .int .i64 n] w fun e w' =>
    e = .returned (.func (.func 99) #[] #[.pointer (some ⟨w.heap.size + 1, 0, none⟩), .pointer (some ⟨w.heap.size + 1 + 1 + 1 + 1, 0, none⟩), .pointer (some ⟨w.heap.size + 1 + 1, 0, none⟩), .pointer (some ⟨w.heap.size, 0, none⟩)]) ∧ w' = dW w rel n (.slice A1 n1 c1) (.slice A2 n2 c2) := by
  go_enter Try.func91, Try.ntmps91
  go_wp2_with fail
  go_ret
  exact ⟨rfl, rfl⟩
theorem grownBy_drew' (w : World) {row : Option Nat} : w.grownBy w.drew row := ⟨rfl, rfl, rfl, Nat.le_refl _, fun _ _ _ => rfl⟩
/-- What parts has laid, as the iterator finds it. -/
structure DoAt (W : World) (B : Nat) (rel n : Int) (v1 v2 : Value) : Prop where
  r : W.cell? ⟨B, 0, none⟩ = some (.int .i64 rel)
  a : W.cell? ⟨B + 1, 0, none⟩ = some v1
  l : W.cell? ⟨B + 1 + 1, 0, none⟩ = some v2
  n : W.cell? ⟨B + 1 + 1 + 1, 0, none⟩ = some (.int .i64 n)
  f : W.cell? ⟨B + 1 + 1 + 1 + 1, 0, none⟩ = some (.func (.func 98) #[] #[.pointer (some ⟨B + 1 + 1 + 1, 0, none⟩)])
theorem DoAt.later {W W' : World} {B : Nat} {rel n : Int} {v1 v2 : Value} (h : DoAt W B rel n v1 v2) (k : Below W.heap.size W W') : DoAt W' B rel n v1 v2 :=
  ⟨(k.cell (p := ⟨B, 0, none⟩) (cell_lt h.r)).trans h.r, (k.cell (p := ⟨B + 1, 0, none⟩) (cell_lt h.a)).trans h.a, (k.cell (p := ⟨B + 1 + 1, 0, none⟩) (cell_lt h.l)).trans h.l, (k.cell (p := ⟨B + 1 + 1 + 1, 0, none⟩) (cell_lt h.n)).trans h.n, (k.cell (p := ⟨B + 1 + 1 + 1 + 1, 0, none⟩) (cell_lt h.f)).trans h.f⟩
theorem dW_at (w : World) (rel n : Int) (v1 v2 : Value) : DoAt (dW w rel n v1 v2) w.heap.size rel n v1 v2 ∧ Below w.heap.size w (dW w rel n v1 v2) ∧ (dW w rel n v1 v2).heap.size = w.heap.size + 5 := by
  refine ⟨⟨?_, ?_, ?_, ?_, ?_⟩, below_new (below_new (below_new (below_new (below_new (Below.refl _ _) _) _) _) _) _, by simp [dW]⟩
  · have h := blk_old (blk_old (blk_old (blk_old (blk_new w (.cells #[.int .i64 rel] 3)) (.cells #[v1] 116)) (.cells #[v2] 116)) (.cells #[.int .i64 n] 3)) (.cells #[.func (.func 98) #[] #[.pointer (some ⟨w.heap.size + 1 + 1 + 1, 0, none⟩)]] 148)
    exact blk_cell h 0
  · have h := blk_old (blk_old (blk_old (blk_new (w.alloc (.cells #[.int .i64 rel] 3)) (.cells #[v1] 116)) (.cells #[v2] 116)) (.cells #[.int .i64 n] 3)) (.cells #[.func (.func 98) #[] #[.pointer (some ⟨w.heap.size + 1 + 1 + 1, 0, none⟩)]] 148)
    simp only [show ∀ (w : World) o, (w.alloc o).heap.size = w.heap.size + 1 from fun w o => by simp] at h
    exact blk_cell h 0
  · have h := blk_old (blk_old (blk_new ((w.alloc (.cells #[.int .i64 rel] 3)).alloc (.cells #[v1] 116)) (.cells #[v2] 116)) (.cells #[.int .i64 n] 3)) (.cells #[.func (.func 98) #[] #[.pointer (some ⟨w.heap.size + 1 + 1 + 1, 0, none⟩)]] 148)
    simp only [show ∀ (w : World) o, (w.alloc o).heap.size = w.heap.size + 1 from fun w o => by simp] at h
    exact blk_cell h 0
  · have h := blk_old (blk_new (((w.alloc (.cells #[.int .i64 rel] 3)).alloc (.cells #[v1] 116)).alloc (.cells #[v2] 116)) (.cells #[.int .i64 n] 3)) (.cells #[.func (.func 98) #[] #[.pointer (some ⟨w.heap.size + 1 + 1 + 1, 0, none⟩)]] 148)
    simp only [show ∀ (w : World) o, (w.alloc o).heap.size = w.heap.size + 1 from fun w o => by simp] at h
    exact blk_cell h 0
  · have h := blk_new ((((w.alloc (.cells #[.int .i64 rel] 3)).alloc (.cells #[v1] 116)).alloc (.cells #[v2] 116)).alloc (.cells #[.int .i64 n] 3)) (.cells #[.func (.func 98) #[] #[.pointer (some ⟨w.heap.size + 1 + 1 + 1, 0, none⟩)]] 148)
    simp only [show ∀ (w : World) o, (w.alloc o).heap.size = w.heap.size + 1 from fun w o => by simp] at h
    exact blk_cell h 0
theorem doL_take1 {rel n : Int} {above all : List Ld} {k : Nat} {x : Ld} (h : above[k]? = some x) : ∃ y : DoOf (doL rel above all n), y.1 = (often n x, x.work) ∧ (doL rel above all n).attach.take (k + 1) = (doL rel above all n).attach.take k ++ [y] ∧ k < (doL rel above all n).length := by
  have hk := (List.getElem?_eq_some_iff.1 h).1
  have hx : (doL rel above all n)[k]? = some (often n x, x.work) := by
    unfold doL
    rw [List.getElem?_append_left (by rw [List.length_map]; exact hk), List.getElem?_map, h]
    rfl
  exact attach_at hx
theorem doL_take2 {rel n : Int} {above all : List Ld} {k : Nat} {x : Ld} (h : all[k]? = some x) : ∃ y : DoOf (doL rel above all n), y.1 = (often n x + 1, rel) ∧ (doL rel above all n).attach.take (above.length + k + 1) = (doL rel above all n).attach.take (above.length + k) ++ [y] ∧ above.length + k < (doL rel above all n).length := by
  have hk := (List.getElem?_eq_some_iff.1 h).1
  have hx : (doL rel above all n)[above.length + k]? = some (often n x + 1, rel) := by
    unfold doL
    rw [List.getElem?_append_right (by rw [List.length_map]; omega), List.length_map, Nat.add_sub_cancel_left, List.getElem?_map, h]
    rfl
  exact attach_at hx
theorem doL_take2' {rel n : Int} {above all : List Ld} {m k : Nat} {x : Ld} (hm : m = above.length) (h : all[k]? = some x) : ∃ y : DoOf (doL rel above all n), y.1 = (often n x + 1, rel) ∧ (doL rel above all n).attach.take (m + k + 1) = (doL rel above all n).attach.take (m + k) ++ [y] ∧ m + k < (doL rel above all n).length := by
  subst hm
  exact doL_take2 h
theorem doL_length (rel n : Int) (above all : List Ld) : (doL rel above all n).length = above.length + all.length := by simp [doL]
/-- What the loop's body keeps: what lay in w0, and the iterator's boxes. -/
def DoK (w0 : World) (B : Nat) (rel n : Int) (v1 v2 : Value) (W W' : World) : Prop := Below w0.heap.size W W' ∧ (DoAt W B rel n v1 v2 → DoAt W' B rel n v1 v2)
theorem doK_t {w0 : World} {B : Nat} {rel n : Int} {v1 v2 : Value} {X Y Z : World} (h : DoK w0 B rel n v1 v2 X Y) (k : DoK w0 B rel n v1 v2 Y Z) : DoK w0 B rel n v1 v2 X Z := ⟨h.1.trans k.1, fun d => k.2 (h.2 d)⟩
theorem doAt_put {B : Nat} {rel n : Int} {v1 v2 : Value} {W : World} {l : Nat} {o o' : Obj} (ho : W.heap[l]? = some o) (hc : o.isCells = false) (h : DoAt W B rel n v1 v2) : DoAt (W.putObj l o') B rel n v1 v2 := by
  have key : ∀ b v, W.cell? ⟨b, 0, none⟩ = some v → (W.putObj l o').cell? ⟨b, 0, none⟩ = some v := fun b v hb => by
    have hne : b ≠ l := fun e => by
      subst e
      cases o <;> simp [World.cell?, ho] at hb
      cases hc
    have h2 : (W.putObj l o').heap[b]? = W.heap[b]? := by
      unfold World.putObj
      simp [Ne.symm hne]
    simp only [World.cell?, h2] at hb ⊢
    exact hb
  exact ⟨key _ _ h.r, key _ _ h.a, key _ _ h.l, key _ _ h.n, key _ _ h.f⟩

set_option maxRecDepth 100000 in
set_option maxHeartbeats 4000000 in
/-- The iterator's closure: whatever the loop's body, if it keeps what lay in w0. -/
theorem doparts_in (N : Nat) (hN : 1 ≤ N) (l B : Nat) (w0 : World) (rel n : Int) (above all : List Ld) (A1 : Option Addr) (n1 c1 : Nat) (A2 : Option Addr) (n2 c2 : Nat) (hn : 0 ≤ n ∧ n ≤ 4611686018427387904)
    (h1 : Rowp 3 ldR w0 (.slice A1 n1 c1) above) (h2 : Rowp 3 ldR w0 (.slice A2 n2 c2) all) (ho1 : ∀ x ∈ above, LdOk x) (ho2 : ∀ x ∈ all, LdOk x) (J Jx : List (DoOf (doL rel above all n)) → World → Prop) (W : World) (hW0 : Below w0.heap.size w0 W) (hD : DoAt W B rel n (.slice A1 n1 c1) (.slice A2 n2 c2)) (hJa : AbidesFrom W.heap.size J)
    (hY : ∀ pre x W, J pre W → pre.length < (doL rel above all n).length → YieldAt Fence.wide (N - 1) Try.prog l (doA x) W fun e W' =>
      (e = .returned (.bool true) ∧ J (pre ++ [x]) W' ∧ DoK w0 B rel n (.slice A1 n1 c1) (.slice A2 n2 c2) W W') ∨ (e = .returned (.bool false) ∧ Jx (pre ++ [x]) W'))
    (h0 : J [] W) :
    CallsIn Fence.wide N Try.prog 99 #[.func (.yield l) #[] #[], .pointer (some ⟨B + 1, 0, none⟩), .pointer (some ⟨B + 1 + 1 + 1 + 1, 0, none⟩), .pointer (some ⟨B + 1 + 1, 0, none⟩), .pointer (some ⟨B, 0, none⟩)] W fun e W' => (∃ v, e = .returned v) ∧ (J (doL rel above all n).attach W' ∨ ∃ pre, pre <+: (doL rel above all n).attach ∧ Jx pre W') := by
  refine callsIn_of_wp Try.func99 rfl trivial ?_ rfl
  simp only [Try.ntmps99, List.size_toArray, List.length_cons, List.length_nil, Nat.reduceAdd, Nat.reduceSub, Array.replicate_succ, Array.replicate_zero, List.push_toArray, List.append_toArray, List.nil_append, List.cons_append]
  have hn1 := h1.len
  have hn2 := h2.len
  have hm1 : n1 ≤ 9223372036854775807 := by have := h1.room; unfold maxLen at this; omega
  have hm2 : n2 ≤ 9223372036854775807 := by have := h2.room; unfold maxLen at this; omega
  have HN1 := hid hn1
  have HN2 := hid hn2
  have H1 := hid h1
  have H2 := hid h2
  have HO1 := hid ho1
  have HO2 := hid ho2
  have HD0 := hid hD
  have HN := hid hn
  have HJA := hid hJa
  have HW0 := hid hW0
  have m1 := hD.a
  clear h1 h2 hn1 hn2 ho1 ho2 hD hn hJa
  gi_wp2
  clear m1
  gi_loopw [12] (fun i wr => ∃ k : Nat, k ≤ n1 ∧ i = .int .i64 k ∧ J ((doL rel above all n).attach.take k) wr ∧ Below w0.heap.size w0 wr ∧ W.heap.size ≤ wr.heap.size ∧ DoAt wr B rel n (.slice A1 n1 c1) (.slice A2 n2 c2)) (fun i _ => n1 - (intOf i).toNat)
  case atStart => exact ⟨0, Nat.zero_le _, rfl, h0, hW0, Nat.le_refl _, HD0.out⟩
  case round =>
    obtain ⟨k, hk, rfl, hJs, hnx, hwsz, hdr⟩ := hrel
    have HJS := hid hJs
    have HNX := hid hnx
    have HSZ := hid hwsz
    have HDr := hid hdr
    clear hJs hnx hwsz hdr
    by_cases hlt : k < n1
    case pos =>
      obtain ⟨x, hx⟩ : ∃ x, above[k]? = some x := ⟨_, List.getElem?_eq_getElem (by have := HN1.out; omega)⟩
      obtain ⟨b, o, cs, hA, hbl, _, hc, hr⟩ := H1.out.at hx
      subst hA
      have hr' : cs = [.int .i64 x.work, .int .i64 x.per, .int .i64 x.jit] := hr
      subst hr'
      have e0 : wr.cell? ⟨b, o + k * 3, none⟩ = some (.int .i64 x.work) := (HNX.out.cell (p := ⟨b, o + k * 3, none⟩) hbl).trans (by simpa using hc 0 _ rfl)
      have e1 : wr.cell? ⟨b, o + k * 3 + 1, none⟩ = some (.int .i64 x.per) := (HNX.out.cell (p := ⟨b, o + k * 3 + 1, none⟩) hbl).trans (hc 1 _ rfl)
      have e2 : wr.cell? ⟨b, o + k * 3 + 2, none⟩ = some (.int .i64 x.jit) := (HNX.out.cell (p := ⟨b, o + k * 3 + 2, none⟩) hbl).trans (hc 2 _ rfl)
      have HX := hid hx
      clear hbl hc hr hx
      have hJ7 : J ((doL rel above all n).attach.take k) (wr.alloc (.cells #[.int .i64 x.work, .int .i64 x.per, .int .i64 x.jit] 118)) := HJA.out _ _ _ none HJS.out (World.grownBy_alloc wr _ none) (fun r e => by cases e)
      have hd7 := HDr.out.later (below_new (Below.refl wr.heap.size wr) (.cells #[.int .i64 x.work, .int .i64 x.per, .int .i64 x.jit] 118))
      have hb7 : Below w0.heap.size w0 (wr.alloc (.cells #[.int .i64 x.work, .int .i64 x.per, .int .i64 x.jit] 118)) := below_new HNX.out _
      have hq7 := blk_new wr (.cells #[.int .i64 x.work, .int .i64 x.per, .int .i64 x.jit] 118)
      have hs7 : (wr.alloc (.cells #[.int .i64 x.work, .int .i64 x.per, .int .i64 x.jit] 118)).heap.size = wr.heap.size + 1 := by simp
      gi_upto_region 3 with fail
      obtain ⟨D, hDz⟩ : ∃ D, wr.heap.size = D := ⟨_, rfl⟩
      rw [hDz] at hq7 hs7 ⊢
      generalize wr.alloc (.cells #[.int .i64 x.work, .int .i64 x.per, .int .i64 x.jit] 118) = W7 at *
      have HOK := hid (HO1.out x (List.mem_of_getElem? HX.out))
      obtain ⟨C, hC⟩ : ∃ C : World → Prop, C = fun V => J ((doL rel above all n).attach.take k) V ∧ Below w0.heap.size w0 V ∧ Below W7.heap.size W7 V := ⟨_, rfl⟩
      have hC0 : C W7.drew := by
        rw [hC]
        exact ⟨HJA.out _ _ _ none hJ7 (grownBy_drew' W7) (fun r e => by cases e), hb7.drew, (Below.refl W7.heap.size W7).drew⟩
      have HD7 := hid hd7
      have HF0 := hid (fun V (h : C V) => show V.cell? ⟨B + 1 + 1 + 1 + 1, 0, none⟩ = some (.func (.func 98) #[] #[.pointer (some ⟨B + 1 + 1 + 1, 0, none⟩)]) by rw [hC] at h; exact (HD7.out.later h.2.2).f)
      have HF1 := hid (fun V (h : C V) => show V.cell? ⟨D, 0, none⟩ = some (.int .i64 x.work) by rw [hC] at h; exact (h.2.2.cell (p := ⟨D, 0, none⟩) (blk_lt hq7)).trans (blk_cell hq7 0))
      have HF2 := hid (fun V (h : C V) => show V.cell? ⟨D, 1, none⟩ = some (.int .i64 x.per) by rw [hC] at h; exact (h.2.2.cell (p := ⟨D, 1, none⟩) (blk_lt hq7)).trans (blk_cell hq7 1))
      have HF3 := hid (fun V (h : C V) => show V.cell? ⟨D, 2, none⟩ = some (.int .i64 x.jit) by rw [hC] at h; exact (h.2.2.cell (p := ⟨D, 2, none⟩) (blk_lt hq7)).trans (blk_cell hq7 2))
      have HF4 := hid (fun V (h : C V) => show V.cell? ⟨B, 0, none⟩ = some (.int .i64 rel) by rw [hC] at h; exact (HD7.out.later h.2.2).r)
      have HC1 := hid (fun V (h : C V) => (often_any (w := V) x HOK.out n HN.out (B + 1 + 1 + 1) (by rw [hC] at h; exact (HD7.out.later h.2.2).n)).mono (fun e w' ⟨h1, h2⟩ => show e = Ending.returned (.int .i64 (often n x)) ∧ C w' from ⟨h1, by rw [hC] at h ⊢; rw [h2]; exact ⟨HJA.out _ _ _ none h.1 (World.grownBy_alloc V _ none) (fun r e => by cases e), below_new h.2.1 _, below_new h.2.2 _⟩⟩))
      have HCE := hid hC
      unfold ldV at HC1
      clear hC hJ7 hb7 hq7 hd7
      refine wpIn_wide_quiet_tail 6 (C := C) hN (by kernel_rfl) (by kernel_rfl) (by kernel_rfl) hC0 ?_
      simp only [List.take_succ_cons, List.take_zero, List.drop_succ_cons, List.drop_zero]
      repeat (refine wpQuiet_step (fun K hK => ?_); rw [if_pos (by rfl)]; refine Exists.intro ?_ (And.intro (fun V HV => ?_) (hK _ ?_)); rotate_left; (focus (first | (go_simp; exact HC1.out V HV) | (have q0 := HF0.out V HV; have q1 := HF1.out V HV; have q2 := HF2.out V HV; have q3 := HF3.out V HV; have q4 := HF4.out V HV; (go_simp); all_goals (with_reducible rfl)))); clear hK K; try simp only [Act.put, List.setIfInBounds_toArray, List.set_cons_zero, List.set_cons_succ])
      refine wpQuiet_nil ?_
      intro wd hwd
      have hCC := hwd
      rw [HCE.out] at hCC
      obtain ⟨hJd, hbd, hbd7⟩ := hCC
      obtain ⟨y, hy1, hy2, hy3⟩ := doL_take1 (rel := rel) (n := n) (all := all) HX.out
      obtain ⟨fn, tmps, assign, body, hy, hR⟩ := hY _ y wd hJd (by rw [List.length_take]; omega)
      unfold doA at hy
      rw [hy1] at hy
      have HTK := hid hy2
      clear hy1 hy2 hy3
      have HBD := hid hbd
      have HDD := hid (HD7.out.later hbd7)
      have HSD := hid (show W.heap.size ≤ wd.heap.size by have h1 := hbd7.size; have h2 := HSZ.out; omega)
      have HR := hid hR
      clear hJd hbd hbd7 hwd hC0 HF0 HF1 HF2 HF3 HF4 HC1 HCE hR
      gi_wp2
      refine HR.out.mono ?_
      rintro e W3 (⟨rfl, hJ3, hk3⟩ | ⟨rfl, hJx3⟩)
      · have hsz3 : W.heap.size ≤ W3.heap.size := by have h1 := hk3.1.size; have h2 := HSD.out; have h3 := HBD.out.size; omega
        rw [← HTK.out] at hJ3
        have hbb := HBD.out.trans hk3.1
        have hdd := hk3.2 HDD.out
        clear hk3
        gi_wp2
        go_roundw
        case rel => exact ⟨k + 1, by omega, by go_num, hJ3, hbb, hsz3, hdd⟩
        case measure => simp [intOf]; omega
      · gi_wp2
        refine bodyPost_ret (results_none rfl _ _ _) rfl ?_
        exact ⟨⟨_, rfl⟩, .inr ⟨_, by rw [← HTK.out]; exact List.take_prefix _ _, hJx3⟩⟩
    case neg =>
      obtain rfl : k = n1 := by omega
      have m2 := HDr.out.l
      gi_wp2
      clear m2
      gi_loopw [27] (fun i wr => ∃ q : Nat, q ≤ n2 ∧ i = .int .i64 q ∧ J ((doL rel above all n).attach.take (k + q)) wr ∧ Below w0.heap.size w0 wr ∧ W.heap.size ≤ wr.heap.size ∧ DoAt wr B rel n (.slice A1 k c1) (.slice A2 n2 c2)) (fun i _ => n2 - (intOf i).toNat)
      case atStart => exact ⟨0, Nat.zero_le _, rfl, HJS.out, HNX.out, HSZ.out, HDr.out⟩
      case round =>
        obtain ⟨q, hq, rfl, hJs, hnx, hwsz, hdr⟩ := hrel
        have HJS := hid hJs
        have HNX := hid hnx
        have HSZ := hid hwsz
        have HDr := hid hdr
        clear hJs hnx hwsz hdr
        by_cases hlt2 : q < n2
        case pos =>
          obtain ⟨x, hx⟩ : ∃ x, all[q]? = some x := ⟨_, List.getElem?_eq_getElem (by have := HN2.out; omega)⟩
          obtain ⟨b, o, cs, hA, hbl, _, hc, hr⟩ := H2.out.at hx
          subst hA
          have hr' : cs = [.int .i64 x.work, .int .i64 x.per, .int .i64 x.jit] := hr
          subst hr'
          have e0 : wr.cell? ⟨b, o + q * 3, none⟩ = some (.int .i64 x.work) := (HNX.out.cell (p := ⟨b, o + q * 3, none⟩) hbl).trans (by simpa using hc 0 _ rfl)
          have e1 : wr.cell? ⟨b, o + q * 3 + 1, none⟩ = some (.int .i64 x.per) := (HNX.out.cell (p := ⟨b, o + q * 3 + 1, none⟩) hbl).trans (hc 1 _ rfl)
          have e2 : wr.cell? ⟨b, o + q * 3 + 2, none⟩ = some (.int .i64 x.jit) := (HNX.out.cell (p := ⟨b, o + q * 3 + 2, none⟩) hbl).trans (hc 2 _ rfl)
          have HX := hid hx
          clear hbl hc hr hx
          have hJ7 : J ((doL rel above all n).attach.take (k + q)) (wr.alloc (.cells #[.int .i64 x.work, .int .i64 x.per, .int .i64 x.jit] 118)) := HJA.out _ _ _ none HJS.out (World.grownBy_alloc wr _ none) (fun r e => by cases e)
          have hd7 := HDr.out.later (below_new (Below.refl wr.heap.size wr) (.cells #[.int .i64 x.work, .int .i64 x.per, .int .i64 x.jit] 118))
          have hb7 : Below w0.heap.size w0 (wr.alloc (.cells #[.int .i64 x.work, .int .i64 x.per, .int .i64 x.jit] 118)) := below_new HNX.out _
          have hq7 := blk_new wr (.cells #[.int .i64 x.work, .int .i64 x.per, .int .i64 x.jit] 118)
          have hs7 : (wr.alloc (.cells #[.int .i64 x.work, .int .i64 x.per, .int .i64 x.jit] 118)).heap.size = wr.heap.size + 1 := by simp
          gi_upto_region 8 with fail
          obtain ⟨D, hDz⟩ : ∃ D, wr.heap.size = D := ⟨_, rfl⟩
          rw [hDz] at hq7 hs7 ⊢
          generalize wr.alloc (.cells #[.int .i64 x.work, .int .i64 x.per, .int .i64 x.jit] 118) = W7 at *
          have hwr : IntKind.i64.wrap (often n x + 1) = often n x + 1 := by
            have h1 := (HO2.out x (List.mem_of_getElem? HX.out)).p
            have h2 := (HO2.out x (List.mem_of_getElem? HX.out)).j
            have h3 := HN.out
            have h4 := cdiv_le (a := n + x.jit) (b := x.per) (by omega) h1.1
            have h5 := cdiv_nonneg (a := n + x.jit) (b := x.per) (by omega) h1.1
            exact wraps_i64 _ (by unfold often; omega) (by unfold often; omega)
          have HOK := hid (HO2.out x (List.mem_of_getElem? HX.out))
          obtain ⟨C, hC⟩ : ∃ C : World → Prop, C = fun V => J ((doL rel above all n).attach.take (k + q)) V ∧ Below w0.heap.size w0 V ∧ Below W7.heap.size W7 V := ⟨_, rfl⟩
          have hC0 : C W7.drew := by
            rw [hC]
            exact ⟨HJA.out _ _ _ none hJ7 (grownBy_drew' W7) (fun r e => by cases e), hb7.drew, (Below.refl W7.heap.size W7).drew⟩
          have HD7 := hid hd7
          have HF0 := hid (fun V (h : C V) => show V.cell? ⟨B + 1 + 1 + 1 + 1, 0, none⟩ = some (.func (.func 98) #[] #[.pointer (some ⟨B + 1 + 1 + 1, 0, none⟩)]) by rw [hC] at h; exact (HD7.out.later h.2.2).f)
          have HF1 := hid (fun V (h : C V) => show V.cell? ⟨D, 0, none⟩ = some (.int .i64 x.work) by rw [hC] at h; exact (h.2.2.cell (p := ⟨D, 0, none⟩) (blk_lt hq7)).trans (blk_cell hq7 0))
          have HF2 := hid (fun V (h : C V) => show V.cell? ⟨D, 1, none⟩ = some (.int .i64 x.per) by rw [hC] at h; exact (h.2.2.cell (p := ⟨D, 1, none⟩) (blk_lt hq7)).trans (blk_cell hq7 1))
          have HF3 := hid (fun V (h : C V) => show V.cell? ⟨D, 2, none⟩ = some (.int .i64 x.jit) by rw [hC] at h; exact (h.2.2.cell (p := ⟨D, 2, none⟩) (blk_lt hq7)).trans (blk_cell hq7 2))
          have HF4 := hid (fun V (h : C V) => show V.cell? ⟨B, 0, none⟩ = some (.int .i64 rel) by rw [hC] at h; exact (HD7.out.later h.2.2).r)
          have HC1 := hid (fun V (h : C V) => (often_any (w := V) x HOK.out n HN.out (B + 1 + 1 + 1) (by rw [hC] at h; exact (HD7.out.later h.2.2).n)).mono (fun e w' ⟨h1, h2⟩ => show e = Ending.returned (.int .i64 (often n x)) ∧ C w' from ⟨h1, by rw [hC] at h ⊢; rw [h2]; exact ⟨HJA.out _ _ _ none h.1 (World.grownBy_alloc V _ none) (fun r e => by cases e), below_new h.2.1 _, below_new h.2.2 _⟩⟩))
          have HCE := hid hC
          unfold ldV at HC1
          clear hC hJ7 hb7 hq7 hd7
          refine wpIn_wide_quiet_tail 6 (C := C) hN (by kernel_rfl) (by kernel_rfl) (by kernel_rfl) hC0 ?_
          simp only [List.take_succ_cons, List.take_zero, List.drop_succ_cons, List.drop_zero]
          repeat (refine wpQuiet_step (fun K hK => ?_); rw [if_pos (by rfl)]; refine Exists.intro ?_ (And.intro (fun V HV => ?_) (hK _ ?_)); rotate_left; (focus (first | (go_simp; exact HC1.out V HV) | (have q0 := HF0.out V HV; have q1 := HF1.out V HV; have q2 := HF2.out V HV; have q3 := HF3.out V HV; have q4 := HF4.out V HV; (go_simp); all_goals (with_reducible rfl)))); clear hK K; try simp only [Act.put, List.setIfInBounds_toArray, List.set_cons_zero, List.set_cons_succ])
          refine wpQuiet_nil ?_
          intro wd hwd
          have hCC := hwd
          rw [HCE.out] at hCC
          obtain ⟨hJd, hbd, hbd7⟩ := hCC
          obtain ⟨y, hy1, hy2, hy3⟩ := doL_take2' (rel := rel) (n := n) HN1.out HX.out
          obtain ⟨fn, tmps, assign, body, hy, hR⟩ := hY _ y wd hJd (by rw [List.length_take]; omega)
          unfold doA at hy
          rw [hy1] at hy
          have HTK := hid hy2
          clear hy1 hy2 hy3
          have HBD := hid hbd
          have HDD := hid (HD7.out.later hbd7)
          have HSD := hid (show W.heap.size ≤ wd.heap.size by have h1 := hbd7.size; have h2 := HSZ.out; omega)
          have HR := hid hR
          clear hJd hbd hbd7 hwd hC0 HF0 HF1 HF2 HF3 HF4 HC1 HCE hR
          gi_wp2
          refine HR.out.mono ?_
          rintro e W3 (⟨rfl, hJ3, hk3⟩ | ⟨rfl, hJx3⟩)
          · have hsz3 : W.heap.size ≤ W3.heap.size := by have h1 := hk3.1.size; have h2 := HSD.out; have h3 := HBD.out.size; omega
            rw [← HTK.out] at hJ3
            have hbb := HBD.out.trans hk3.1
            have hdd := hk3.2 HDD.out
            clear hk3
            gi_wp2
            go_roundw
            case rel => exact ⟨q + 1, by omega, by go_num, hJ3, hbb, hsz3, hdd⟩
            case measure => simp [intOf]; omega
          · gi_wp2
            refine bodyPost_ret (results_none rfl _ _ _) rfl ?_
            exact ⟨⟨_, rfl⟩, .inr ⟨_, by rw [← HTK.out]; exact List.take_prefix _ _, hJx3⟩⟩
        case neg =>
          obtain rfl : q = n2 := by omega
          have hJE := HJS.out
          rw [List.take_of_length_le (by rw [List.length_attach, doL_length, HN1.out, HN2.out]; exact Nat.le_refl _)] at hJE
          gi_wp2
          go_end0
          exact ⟨⟨_, rfl⟩, .inl hJE⟩
theorem doparts_stops (N : Nat) (hN : 1 ≤ N) (B : Nat) (w0 : World) (rel n : Int) (above all : List Ld) (A1 : Option Addr) (n1 c1 : Nat) (A2 : Option Addr) (n2 c2 : Nat) (hn : 0 ≤ n ∧ n ≤ 4611686018427387904)
    (h1 : Rowp 3 ldR w0 (.slice A1 n1 c1) above) (h2 : Rowp 3 ldR w0 (.slice A2 n2 c2) all) (ho1 : ∀ x ∈ above, LdOk x) (ho2 : ∀ x ∈ all, LdOk x) (w : World) (hB : Below w0.heap.size w0 w) (hD : DoAt w B rel n (.slice A1 n1 c1) (.slice A2 n2 c2)) :
    SeqStopsK Fence.wide N Try.prog 99 #[.pointer (some ⟨B + 1, 0, none⟩), .pointer (some ⟨B + 1 + 1 + 1 + 1, 0, none⟩), .pointer (some ⟨B + 1 + 1, 0, none⟩), .pointer (some ⟨B, 0, none⟩)] doA (DoK w0 B rel n (.slice A1 n1 c1) (.slice A2 n2 c2)) (fun ys => ys = (doL rel above all n).attach) (fun pre => pre <+: (doL rel above all n).attach) (doL rel above all n).length w := fun l J Jx W hW hJa hJxa hY h0 => by
  refine (doparts_in N hN l B w0 rel n above all A1 n1 c1 A2 n2 c2 hn h1 h2 ho1 ho2 J Jx W (hB.trans (hW.mono hB.size)) (hD.later hW) hJa hY h0).mono ?_
  rintro e W' ⟨he, hj | ⟨pre, hp, hj⟩⟩
  · exact ⟨he, .inl ⟨_, rfl, hj⟩⟩
  · exact ⟨he, .inr ⟨pre, hp, hj⟩⟩
end
end Go.Proofs.Ytppildaahmlfmaa
/- Package terms: section, Uses (contracts). -/
set_option linter.unusedVariables false
set_option linter.unusedSimpArgs false
namespace Go.Proofs.Ytppildaahmlfmaa
open Go.RowKit

def secV (x : Sec) : Value := .agg #[.int .i64 x.at_, .int .i64 x.res, .int .i64 x.len]
def sec0 : Sec := ⟨0, 0, 0⟩
def secO (o : Option Sec) : Value := .tuple #[secV (o.getD sec0), .bool o.isSome]
/-- A system's block, and what lies behind it, as a call finds them. -/
structure SyAt (w W : World) (B : Nat) (S : Sy) (u : Value) : Prop where
  blk : W.heap[B]? = some (.cells (sysC S u) 24 (0, 0))
  below : Below w.heap.size w W
theorem SyAt.later {w W W' : World} {B : Nat} {S : Sy} {u : Value} (h : SyAt w W B S u) (k : Below W.heap.size W W') : SyAt w W' B S u := ⟨(fr0 k).blk h.blk (fun h => h), below_then h.below k⟩
theorem SyAt.cells {w W : World} {B : Nat} {S : Sy} {u : Value} (h : SyAt w W B S u) :
    W.cell? ⟨B, 0, none⟩ = some (.int .i64 S.cores) ∧ W.cell? ⟨B, 1, none⟩ = some (.int .i64 S.policy) ∧ W.cell? ⟨B, 2, none⟩ = some (.int .i64 S.prot) ∧ W.cell? ⟨B, 3, none⟩ = some (.int .i64 S.rel) ∧ W.cell? ⟨B, 4, none⟩ = some (.int .i64 S.sw) ∧ W.cell? ⟨B, 5, none⟩ = some (.int .i64 S.fin) ∧ W.cell? ⟨B, 6, none⟩ = some (.int .i64 S.lat) ∧ W.cell? ⟨B, 7, none⟩ = some (.int .i64 S.resn) ∧ W.cell? ⟨B, 8, none⟩ = some u :=
  ⟨blk_cell h.blk 0, blk_cell h.blk 1, blk_cell h.blk 2, blk_cell h.blk 3, blk_cell h.blk 4, blk_cell h.blk 5, blk_cell h.blk 6, blk_cell h.blk 7, blk_cell h.blk 8⟩
section
variable {w : World}
set_option maxRecDepth 100000 in
set_option maxHeartbeats 3200000 in
theorem sect_any (S : Sy) (A0 : Option Addr) (n0 c0 : Nat) (hs : IsSys w (.slice A0 n0 c0) S) (hr : rightS S = true) (i k : Nat) (t : Tsk) (ht : S.tasks[i]? = some t) (hk : k ≤ 1000) :
    Calls Try.prog 54 #[sysV S (.slice A0 n0 c0), .int .i64 i, .int .i64 k] w fun e w' => e = .returned (secO (t.secs[k]?)) ∧ Below w.heap.size w w' := by
  have hn0 := hs.tasks.len
  have HOK := hid (rightS_ok hr)
  have hn24 : n0 ≤ 24 := by have := HOK.out.len; omega
  have hi : i < n0 := by have := (List.getElem?_eq_some_iff.1 ht).1; omega
  have HVR := hid (fun W (h : Below w.heap.size w W) => vright_any (w := W) S A0 c0 n0 (hs.later h))
  rw [hr] at HVR
  obtain ⟨b1, o1, cs1, hA1, hbl1, _, hcs1, us1, hu1, hu2⟩ := hs.tasks.at ht
  subst hA1
  subst hu1
  obtain ⟨A1, c1, hu3, _⟩ := hu2.shape
  obtain ⟨m1, hm1⟩ : ∃ m, m = t.secs.length := ⟨_, rfl⟩
  rw [← hm1] at hu3
  subst hu3
  have hm4 : m1 ≤ 4 := by rw [hm1]; exact (HOK.out.tasks t (List.mem_of_getElem? ht)).n
  have HC3 := hid (fun W (h : Below w.heap.size w W) => (h.cell (p := ⟨b1, o1 + i * 4 + 3, none⟩) hbl1).trans (hcs1 3 _ rfl))
  have HU2 := hid (fun W (h : Below w.heap.size w W) => hu2.later secR.stays h)
  have HM1 := hid hm1
  have hs0 := blk_old (blk_new w (.cells (sysC S (.slice (some ⟨b1, o1, none⟩) n0 c0)) 24)) (.cells #[.int .i64 0, .int .i64 0, .int .i64 0] 88)
  have hb0 := below_new (below_new (Below.refl w.heap.size w) (.cells (sysC S (.slice (some ⟨b1, o1, none⟩) n0 c0)) 24)) (.cells #[.int .i64 0, .int .i64 0, .int .i64 0] 88)
  have hq0 := blk_new (w.alloc (.cells (sysC S (.slice (some ⟨b1, o1, none⟩) n0 c0)) 24)) (.cells #[.int .i64 0, .int .i64 0, .int .i64 0] 88)
  rw [show ∀ o, (w.alloc o).heap.size = w.heap.size + 1 from fun o => by simp] at hq0
  have HSY := hid (show SyAt w ((w.alloc (.cells (sysC S (.slice (some ⟨b1, o1, none⟩) n0 c0)) 24)).alloc (.cells #[.int .i64 0, .int .i64 0, .int .i64 0] 88)) w.heap.size S (.slice (some ⟨b1, o1, none⟩) n0 c0) from ⟨hs0, hb0⟩)
  have HQ0 := hid hq0
  have s00 := blk_cell hs0 0
  have s01 := blk_cell hs0 1
  have s02 := blk_cell hs0 2
  have s03 := blk_cell hs0 3
  have s04 := blk_cell hs0 4
  have s05 := blk_cell hs0 5
  have s06 := blk_cell hs0 6
  have s07 := blk_cell hs0 7
  have s08 := blk_cell hs0 8
  clear hs hr hn0 ht hu2 hcs1 hbl1 hs0 hb0 hq0 hm1
  unfold sysV
  unfold sysC at HSY HQ0 s00 s01 s02 s03 s04 s05 s06 s07 s08
  unfold sysV at HVR
  go_enter Try.func54, Try.ntmps54
  go_wp2_with fail
  refine (HVR.out _ HSY.out.below).mono ?_
  rintro e w1 ⟨rfl, hb1⟩
  have HS1 := hid (HSY.out.later hb1)
  have HQ1 := hid ((fr0 hb1).blk HQ0.out (fun h => h))
  have c8 := HS1.out.cells.2.2.2.2.2.2.2.2
  have c3 := HC3.out w1 HS1.out.below
  have HU1 := hid (HU2.out w1 HS1.out.below)
  clear hb1 HSY HQ0 s00 s01 s02 s03 s04 s05 s06 s07 s08 HVR HC3 HU2
  have z0 : w1.cell? ⟨w.heap.size + 1, 0, none⟩ = some (.int .i64 0) := blk_cell HQ1.out 0
  have z1 : w1.cell? ⟨w.heap.size + 1, 1, none⟩ = some (.int .i64 0) := blk_cell HQ1.out 1
  have z2 : w1.cell? ⟨w.heap.size + 1, 2, none⟩ = some (.int .i64 0) := blk_cell HQ1.out 2
  have zf : ∀ j, w1.frozen? ⟨w.heap.size + 1, j, none⟩ = false := fun j => blk_free HQ1.out j
  by_cases hkm : k < m1
  case neg =>
    have HX := hid (show t.secs[k]? = none from List.getElem?_eq_none (by have := HM1.out; omega))
    have d0 : decide ((m1 : Int) ≤ k) = true := decide_eq_true (by omega)
    obtain ⟨wz, hwz⟩ : ∃ wz, wz = ((w1.setCell ⟨w.heap.size + 1, 0, none⟩ (.int .i64 0)).setCell ⟨w.heap.size + 1, 1, none⟩ (.int .i64 0)).setCell ⟨w.heap.size + 1, 2, none⟩ (.int .i64 0) := ⟨_, rfl⟩
    have HWZ := hid hwz
    clear hwz
    go_wp2_with fail
    rw [← HWZ.out]
    have hq := blk_set (blk_set (blk_set HQ1.out 0 (.int .i64 0)) 1 (.int .i64 0)) 2 (.int .i64 0)
    have hf : Fr (One (w.heap.size + 1)) w1 wz := by rw [HWZ.out]; exact (((Fr.refl _ w1).one 0 _).one 1 _).one 2 _
    rw [← HWZ.out] at hq
    have y0 : wz.cell? ⟨w.heap.size + 1, 0, none⟩ = some (.int .i64 0) := blk_cell hq 0
    have y1 : wz.cell? ⟨w.heap.size + 1, 1, none⟩ = some (.int .i64 0) := blk_cell hq 1
    have y2 : wz.cell? ⟨w.heap.size + 1, 2, none⟩ = some (.int .i64 0) := blk_cell hq 2
    have hbz : Below w.heap.size w wz := ((Fr.of_below (S := NoB) HS1.out.below).trans hf (fun x hx => .inr (by rw [show x = w.heap.size + 1 from hx]; omega))).no
    exact bodyPost_ret (v := .tuple #[.agg #[.int .i64 0, .int .i64 0, .int .i64 0], .bool false]) (by simp [results, Try.results54, go_sem, y0, y1, y2]) rfl ⟨by rw [HX.out]; rfl, hbz⟩
  case pos =>
    obtain ⟨x, hx⟩ : ∃ x, t.secs[k]? = some x := ⟨_, List.getElem?_eq_getElem (by have := HM1.out; omega)⟩
    obtain ⟨b8, o8, cs8, hA8, hbl8, _, hcs8, hr8⟩ := HU1.out.at hx
    subst hA8
    have hr8' : cs8 = [.int .i64 x.at_, .int .i64 x.res, .int .i64 x.len] := hr8
    subst hr8'
    have e0 : w1.cell? ⟨b8, o8 + k * 3, none⟩ = some (.int .i64 x.at_) := by simpa using hcs8 0 _ rfl
    have e1 : w1.cell? ⟨b8, o8 + k * 3 + 1, none⟩ = some (.int .i64 x.res) := hcs8 1 _ rfl
    have e2 : w1.cell? ⟨b8, o8 + k * 3 + 2, none⟩ = some (.int .i64 x.len) := hcs8 2 _ rfl
    have HX := hid hx
    have d0 : decide ((m1 : Int) ≤ k) = false := decide_eq_false (by omega)
    clear hx hbl8 hcs8 hr8
    obtain ⟨xa, xb, xc⟩ := x
    simp only at e0 e1 e2
    obtain ⟨wz, hwz⟩ : ∃ wz, wz = ((w1.setCell ⟨w.heap.size + 1, 0, none⟩ (.int .i64 xa)).setCell ⟨w.heap.size + 1, 1, none⟩ (.int .i64 xb)).setCell ⟨w.heap.size + 1, 2, none⟩ (.int .i64 xc) := ⟨_, rfl⟩
    have HWZ := hid hwz
    clear hwz
    go_wp2_with fail
    rw [← HWZ.out]
    have hq := blk_set (blk_set (blk_set HQ1.out 0 (.int .i64 xa)) 1 (.int .i64 xb)) 2 (.int .i64 xc)
    have hf : Fr (One (w.heap.size + 1)) w1 wz := by rw [HWZ.out]; exact (((Fr.refl _ w1).one 0 _).one 1 _).one 2 _
    rw [← HWZ.out] at hq
    have y0 : wz.cell? ⟨w.heap.size + 1, 0, none⟩ = some (.int .i64 xa) := blk_cell hq 0
    have y1 : wz.cell? ⟨w.heap.size + 1, 1, none⟩ = some (.int .i64 xb) := blk_cell hq 1
    have y2 : wz.cell? ⟨w.heap.size + 1, 2, none⟩ = some (.int .i64 xc) := blk_cell hq 2
    have hbz : Below w.heap.size w wz := ((Fr.of_below (S := NoB) HS1.out.below).trans hf (fun x hx => .inr (by rw [show x = w.heap.size + 1 from hx]; omega))).no
    exact bodyPost_ret (v := .tuple #[.agg #[.int .i64 xa, .int .i64 xb, .int .i64 xc], .bool true]) (by simp [results, Try.results54, go_sem, y0, y1, y2]) rfl ⟨by rw [HX.out]; rfl, hbz⟩
set_option maxRecDepth 100000 in
theorem uses_any (S : Sy) (A0 : Option Addr) (n0 c0 : Nat) (hs : IsSys w (.slice A0 n0 c0) S) (hr : rightS S = true) (i : Nat) (t : Tsk) (ht : S.tasks[i]? = some t) :
    Calls Try.prog 38 #[sysV S (.slice A0 n0 c0), .int .i64 i] w fun e w' => e = .returned (.bool (!t.secs.isEmpty)) ∧ Below w.heap.size w w' := by
  have HSE := hid (fun W (h : Below w.heap.size w W) => sect_any (w := W) S A0 n0 c0 (hs.later h) hr i 0 t ht (by omega))
  have hq0 := blk_new w (.cells (sysC S (.slice A0 n0 c0)) 24)
  have HB0 := hid (below_new (Below.refl w.heap.size w) (.cells (sysC S (.slice A0 n0 c0)) 24))
  have s00 := blk_cell hq0 0
  have s01 := blk_cell hq0 1
  have s02 := blk_cell hq0 2
  have s03 := blk_cell hq0 3
  have s04 := blk_cell hq0 4
  have s05 := blk_cell hq0 5
  have s06 := blk_cell hq0 6
  have s07 := blk_cell hq0 7
  have s08 := blk_cell hq0 8
  have HIS := hid (show (t.secs[0]?).isSome = !t.secs.isEmpty by cases t.secs <;> rfl)
  obtain ⟨o, ho⟩ : ∃ o, t.secs[0]? = o := ⟨_, rfl⟩
  rw [ho] at HSE HIS
  rw [← HIS.out]
  clear hs hr ht hq0 ho HIS
  unfold sysV at HSE ⊢
  unfold secO secV at HSE
  unfold sysC at HB0 s00 s01 s02 s03 s04 s05 s06 s07 s08
  obtain ⟨v, hv⟩ : ∃ v, o.isSome = v := ⟨_, rfl⟩
  rw [hv] at HSE ⊢
  obtain ⟨⟨xa, xb, xc⟩, hx⟩ : ∃ x, o.getD sec0 = x := ⟨_, rfl⟩
  rw [hx] at HSE
  simp only at HSE
  clear hv hx
  go_enter Try.func38, Try.ntmps38
  go_wp2_with fail
  refine (HSE.out _ HB0.out).mono ?_
  rintro e w1 ⟨rfl, hb1⟩
  have HB1 := hid (below_new (below_then HB0.out hb1) (.cells #[.int .i64 xa, .int .i64 xb, .int .i64 xc] 88))
  clear hb1 s00 s01 s02 s03 s04 s05 s06 s07 s08
  go_wp2_with fail
  go_ret
  exact ⟨rfl, HB1.out⟩
end
end Go.Proofs.Ytppildaahmlfmaa
/- Package response: Within (contract). -/
set_option linter.unusedVariables false
set_option linter.unusedSimpArgs false
namespace Go.Proofs.Ytppildaahmlfmaa
open Go.RowKit Go.Shelf
attribute [local go_sem] Oper.semAt_some

def capB (x : Int) : Option Int := if x ≤ 4611686018427387904 then some x else none
theorem bndRight_ok {own block rel : Int} {above all : List Ld} (h : bndRightB own block rel above all = true) : (0 ≤ own ∧ own ≤ 1099511627776) ∧ (0 ≤ block ∧ block ≤ 1099511627776) ∧ (0 ≤ rel ∧ rel ≤ 1099511627776) ∧ (∀ x ∈ above, LdOk x) ∧ (∀ x ∈ all, LdOk x) ∧ above.length ≤ 72 ∧ all.length ≤ 72 := by
  unfold bndRightB ldsB timeB at h
  simp only [Bool.and_eq_true, decide_eq_true_eq, List.all_eq_true] at h
  exact ⟨h.1.1.1.1, h.1.1.1.2, h.1.1.2, fun x hx => ldB_ok (h.1.2.2 x hx), fun x hx => ldB_ok (h.2.2 x hx), h.1.2.1, h.2.1⟩
theorem doL_bound {rel n : Int} {above all : List Ld} (hr : 0 ≤ rel ∧ rel ≤ 1099511627776) (hn : 0 ≤ n ∧ n ≤ 4611686018427387904) (ha : ∀ x ∈ above, LdOk x) (hb : ∀ x ∈ all, LdOk x) : ∀ p ∈ doL rel above all n, (0 ≤ p.1 ∧ p.1 ≤ 9223372036854775807) ∧ 0 ≤ p.2 ∧ p.2 ≤ 9223372036854775807 := by
  intro p hp
  unfold doL at hp
  rcases List.mem_append.1 hp with hp | hp
  · obtain ⟨x, hx, rfl⟩ := List.mem_map.1 hp
    have h := ha x hx
    have h1 := h.j
    have h2 := h.w
    have h4 := cdiv_le (a := n + x.jit) (b := x.per) (by omega) h.p.1
    have h5 := cdiv_nonneg (a := n + x.jit) (b := x.per) (by omega) h.p.1
    unfold often
    simp only
    omega
  · obtain ⟨x, hx, rfl⟩ := List.mem_map.1 hp
    have h := hb x hx
    have h1 := h.j
    have h4 := cdiv_le (a := n + x.jit) (b := x.per) (by omega) h.p.1
    have h5 := cdiv_nonneg (a := n + x.jit) (b := x.per) (by omega) h.p.1
    unfold often
    simp only
    omega
theorem doSum_snoc (l : List (Int × Int)) (p : Int × Int) : doSum (l ++ [p]) = doSum l + p.1 * p.2 := by rw [doSum_append]; simp [doSum]
theorem keeps_fr {S : Nat → Prop} {B : Nat} {W W' : World} (h : Fr S W W') (hS : ∀ k, S k → k < B) : KeepsFrom B W W' := ⟨h.size, fun k o hB hi ho => (h.block k (blk_lt hi) (fun hs => by have := hS k hs; omega)).trans hi⟩
/-- Three boxes. -/
def Three (a b c : Nat) : Nat → Prop := fun k => k = a ∨ k = b ∨ k = c
/-- Between two rounds: the boxes of the results, and of the sum. -/
structure WiAt (w : World) (S : Nat) (x : Int) (W : World) : Prop where
  b12 : Boxed W w.heap.size 3 (.int .i64 0)
  b13 : Boxed W (w.heap.size + 1) 28 (.int .i64 0)
  sum : Boxed W S 3 (.int .i64 x)
  below : Below w.heap.size w W
/-- The sum is too great. -/
structure WxAt (w : World) (W : World) : Prop where
  b12 : Boxed W w.heap.size 3 (.int .i64 0)
  b13 : Boxed W (w.heap.size + 1) 28 (.int .i64 2)
  below : Below w.heap.size w W
theorem wi_sum {w V : World} {S : Nat} {x : Int} (h : WiAt w S x V) (hS : w.heap.size + 1 < S) (y : Int) : WiAt w S y (V.setCell ⟨S, 0, none⟩ (.int .i64 y)) ∧ Fr (Three w.heap.size (w.heap.size + 1) S) V (V.setCell ⟨S, 0, none⟩ (.int .i64 y)) := by
  have hf : Fr (Three w.heap.size (w.heap.size + 1) S) V (V.setCell ⟨S, 0, none⟩ (.int .i64 y)) := (Fr.refl _ V).set (.inl (.inr (.inr rfl))) _
  refine ⟨⟨blk_set_ne h.b12 (by omega) _ _, blk_set_ne h.b13 (by omega) _ _, ?_, ?_⟩, hf⟩
  · have := blk_set h.sum 0 (.int .i64 y)
    exact this
  · exact ((Fr.of_below (S := NoB) h.below).trans hf (fun k hk => .inr (by rcases hk with hk | hk | hk <;> omega))).no
theorem wx_put {w V : World} {S : Nat} {x : Int} (h : WiAt w S x V) (hS : w.heap.size + 1 < S) : WxAt w ((V.setCell ⟨w.heap.size, 0, none⟩ (.int .i64 0)).setCell ⟨w.heap.size + 1, 0, none⟩ (.int .i64 2)) ∧ Fr (Three w.heap.size (w.heap.size + 1) S) V ((V.setCell ⟨w.heap.size, 0, none⟩ (.int .i64 0)).setCell ⟨w.heap.size + 1, 0, none⟩ (.int .i64 2)) := by
  have hf : Fr (Three w.heap.size (w.heap.size + 1) S) V ((V.setCell ⟨w.heap.size, 0, none⟩ (.int .i64 0)).setCell ⟨w.heap.size + 1, 0, none⟩ (.int .i64 2)) := ((Fr.refl _ V).set (p := ⟨w.heap.size, 0, none⟩) (.inl (.inl rfl)) _).set (p := ⟨w.heap.size + 1, 0, none⟩) (.inl (.inr (.inl rfl))) _
  refine ⟨⟨?_, ?_, ?_⟩, hf⟩
  · have := blk_set h.b12 0 (.int .i64 0)
    exact blk_set_ne this (by omega) _ _
  · have := blk_set (blk_set_ne h.b13 (show w.heap.size + 1 ≠ w.heap.size by omega) 0 (.int .i64 0)) 0 (.int .i64 2)
    exact this
  · exact ((Fr.of_below (S := NoB) h.below).trans hf (fun k hk => .inr (by rcases hk with hk | hk | hk <;> omega))).no
theorem cell_put {W : World} {l b : Nat} {o o' : Obj} {v : Value} (ho : W.heap[l]? = some o) (hc : o.isCells = false) (h : W.cell? ⟨b, 0, none⟩ = some v) : (W.putObj l o').cell? ⟨b, 0, none⟩ = some v := by
  have hne : b ≠ l := fun e => by
    subst e
    cases o <;> simp [World.cell?, ho] at h
    cases hc
  have h2 : (W.putObj l o').heap[b]? = W.heap[b]? := by
    unfold World.putObj
    simp [Ne.symm hne]
  simp only [World.cell?, h2] at h ⊢
  exact h
theorem doAt_fr {T : Nat → Prop} {B : Nat} {rel n : Int} {v1 v2 : Value} {W W' : World} (h : DoAt W B rel n v1 v2) (f : Fr T W W') (hn : ∀ k, B ≤ k → ¬ T k) : DoAt W' B rel n v1 v2 :=
  ⟨f.cell h.r (hn _ (by simp)), f.cell h.a (hn _ (by simp)), f.cell h.l (hn _ (by simp; omega)), f.cell h.n (hn _ (by simp; omega)), f.cell h.f (hn _ (by simp; omega))⟩
theorem below_of_fr {T : Nat → Prop} {W W' : World} {m : Nat} (f : Fr T W W') (hm : m ≤ W.heap.size) (hn : ∀ k, T k → m ≤ k) : Below m W W' := ⟨f.os, f.tape, f.output, f.size, fun k hk => f.block k (by omega) (fun h => by have := hn k h; omega)⟩
theorem boxed_grown {W W' : World} {row : Option Nat} {B : Nat} {t : TypeId} {v : Value} (h : Boxed W B t v) (hg : W.grownBy W' row) (hr : ∀ r, row = some r → ∃ o : Obj, W.heap[r]? = some o ∧ o.isCells = false) : Boxed W' B t v :=
  cells_own B t (fun _ : Unit => #[v]) () W W' row h hg hr
theorem below_grown' {w W W' : World} {row : Option Nat} {Z : Nat} (h : Below w.heap.size w W) (hg : W.grownBy W' row) (hz : w.heap.size ≤ Z) (hr : ∀ r, row = some r → Z ≤ r) : Below w.heap.size w W' :=
  h.grown hg h.size (fun r e => by have := hr r e; omega)
section
variable {w : World}
set_option maxRecDepth 100000 in
set_option maxHeartbeats 4000000 in
theorem within_in (N : Nat) (hN : 3 ≤ N) (own block rel : Int) (above all : List Ld) (A1 : Option Addr) (n1 c1 : Nat) (A2 : Option Addr) (n2 c2 : Nat) (n : Int) (hn : 0 ≤ n ∧ n ≤ 4611686018427387904)
    (h1 : Rowp 3 ldR w (.slice A1 n1 c1) above) (h2 : Rowp 3 ldR w (.slice A2 n2 c2) all) (hR : bndRightB own block rel above all = true) :
    CallsIn Fence.wide N Try.prog 80 #[.int .i64 own, .int .i64 block, .int .i64 rel, .slice A1 n1 c1, .slice A2 n2 c2, .int .i64 n] w fun e w' => e = .returned (okV (capB (withinV own block rel above all n))) ∧ Below w.heap.size w w' := by
  have hN1 : 1 ≤ N := by omega
  obtain ⟨ho, hb, hrl, hoa, hol, hla, hll⟩ := bndRight_ok hR
  have HRB := hid hR
  have HRT := hid (fun W (h : Below w.heap.size w W) => bright_any (w := W) own block rel above all A1 n1 c1 A2 n2 c2 (h1.later ldR.stays h) (h2.later ldR.stays h))
  rw [hR] at HRT
  have H1 := hid h1
  have H2 := hid h2
  have HOA := hid hoa
  have HOL := hid hol
  have HLEN := hid (And.intro hla hll)
  have ew : IntKind.i64.wrap (own + block) = own + block := wraps_i64 _ (by omega) (by omega)
  clear h1 h2 hR hoa hol hla hll
  refine callsIn_of_wp_marks Try.func80 rfl trivial ?_ rfl
  simp only [Try.ntmps80, List.size_toArray, List.length_cons, List.length_nil, Nat.reduceAdd, Nat.reduceSub, Array.replicate_succ, Array.replicate_zero, List.push_toArray, List.append_toArray, List.nil_append, List.cons_append]
  have hb0 := below_new (below_new (Below.refl w.heap.size w) (.cells #[.int .i64 0] 3)) (.cells #[.int .i64 0] 28)
  have q12 := blk_old (blk_new w (.cells #[.int .i64 0] 3)) (.cells #[.int .i64 0] 28)
  have q13 := blk_new (w.alloc (.cells #[.int .i64 0] 3)) (.cells #[.int .i64 0] 28)
  rw [show ∀ o, (w.alloc o).heap.size = w.heap.size + 1 from fun o => by simp] at q13
  have HB0 := hid hb0
  have HQ12 := hid q12
  have HQ13 := hid q13
  clear hb0 q12 q13
  have hd0 : decide (n < 0) = false := decide_eq_false (by omega)
  have hd1 : decide (4611686018427387904 < n) = false := decide_eq_false (by omega)
  gi_wp2
  refine ⟨trivial, (callsIn_wide.2 (HRT.out _ HB0.out)).mono ?_⟩
  rintro e w1 ⟨rfl, hb1⟩
  have HB1 := hid (below_then HB0.out hb1)
  have HP12 := hid ((fr0 hb1).blk HQ12.out (fun h => h))
  have HP13 := hid ((fr0 hb1).blk HQ13.out (fun h => h))
  clear hb1 HB0 HQ12 HQ13
  have hmb := (dW_at (w1.alloc (.cells #[.int .i64 (own + block)] 3)) rel n (.slice A1 n1 c1) (.slice A2 n2 c2))
  have hq := blk_new w1 (.cells #[.int .i64 (own + block)] 3)
  have hq12 := blk_old HP12.out (.cells #[.int .i64 (own + block)] 3)
  have hq13 := blk_old HP13.out (.cells #[.int .i64 (own + block)] 3)
  have hbn := below_new HB1.out (.cells #[.int .i64 (own + block)] 3)
  have hws := HB1.out.size
  have hlt13 := blk_lt HP13.out
  rw [show (w1.alloc (.cells #[.int .i64 (own + block)] 3)).heap.size = w1.heap.size + 1 by simp] at hmb
  have HMB := hid hmb
  have HQS := hid hq
  have HR12 := hid hq12
  have HR13 := hid hq13
  have HBN := hid hbn
  clear hmb hq hq12 hq13 hbn HP12 HP13
  gi_wp2
  refine ⟨trivial, (callsIn_wide.2 (bparts_any rel n A1 A2 n1 c1 n2 c2)).mono ?_⟩
  rintro e w' ⟨rfl, rfl⟩
  rw [show (w1.alloc (.cells #[.int .i64 (own + block)] 3)).heap.size = w1.heap.size + 1 by simp]
  gi_wp2
  obtain ⟨S, hS⟩ : ∃ S, w1.heap.size = S := ⟨_, rfl⟩
  obtain ⟨hat, hbw, hsz0⟩ := HMB.out
  have b0 : Below (w1.alloc (.cells #[.int .i64 (own + block)] 3)).heap.size (w1.alloc (.cells #[.int .i64 (own + block)] 3)) (dW (w1.alloc (.cells #[.int .i64 (own + block)] 3)) rel n (.slice A1 n1 c1) (.slice A2 n2 c2)) := by
    rw [show (w1.alloc (.cells #[.int .i64 (own + block)] 3)).heap.size = w1.heap.size + 1 by simp]
    exact hbw
  have hbS := (fr0 b0).blk HQS.out (fun h => h)
  have hb12 := (fr0 b0).blk HR12.out (fun h => h)
  have hb13 := (fr0 b0).blk HR13.out (fun h => h)
  have hbw0 := below_then HBN.out b0
  clear HMB HQS HR12 HR13 HBN b0 hbw HB1
  generalize dW (w1.alloc (.cells #[.int .i64 (own + block)] 3)) rel n (.slice A1 n1 c1) (.slice A2 n2 c2) = W0 at *
  rw [hS] at hat hbS hsz0 hws hlt13 ⊢
  clear hS
  have hbase : 0 ≤ own + block ∧ own + block ≤ 2199023255552 := by omega
  obtain ⟨X, hX⟩ : ∃ X, own + block = X := ⟨_, rfl⟩
  rw [hX] at hbS hbase ew
  have HX := hid hX
  have HDN := hid (doL_bound (rel := rel) (n := n) hrl hn HOA.out HOL.out)
  clear hX
  refine wpIn_rangeFunc_ownH (F := Fence.wide) rfl hN1 (gf := 99) (lb := #[.pointer (some ⟨S + 1 + 1, 0, none⟩), .pointer (some ⟨S + 1 + 1 + 1 + 1 + 1, 0, none⟩), .pointer (some ⟨S + 1 + 1 + 1, 0, none⟩), .pointer (some ⟨S + 1, 0, none⟩)]) rfl trivial (enters_of Try.func99 (by kernel_rfl) rfl)
    (doparts_stops (N - 1) (by omega) (S + 1) w rel n above all A1 n1 c1 A2 n2 c2 hn H1.out H2.out HOA.out HOL.out W0 hbw0 hat) doK_t (fun W l o o' hl ho hc hk => ⟨belowK_b (w := w) (Nat.le_refl _) W l o o' (by omega) ho hc hk, fun d => doAt_put ho hc d⟩) (Below.refl _ _) (fun _ => rfl)
    (fun pre W => WiAt w S (X + doSum (pre.map (·.1))) W ∧ X + doSum (pre.map (·.1)) ≤ 4611686018427387904)
    (fun c pre W => WxAt w W ∧ c = .ret ∧ 4611686018427387904 < X + doSum (pre.map (·.1)))
    (fun s Y Z row hs hg hr => ⟨⟨boxed_grown hs.1.b12 hg (fun r e => (hr r e).2), boxed_grown hs.1.b13 hg (fun r e => (hr r e).2), boxed_grown hs.1.sum hg (fun r e => (hr r e).2), below_grown' hs.1.below hg (Z := W0.heap.size) (by omega) (fun r e => (hr r e).1)⟩, hs.2⟩)
    (fun c s Y Z row hs hg hr => ⟨⟨boxed_grown hs.1.b12 hg (fun r e => (hr r e).2), boxed_grown hs.1.b13 hg (fun r e => (hr r e).2), below_grown' hs.1.below hg (Z := W0.heap.size) (by omega) (fun r e => (hr r e).1)⟩, hs.2⟩)
    ⟨⟨hb12, hb13, by rw [show X + doSum (([] : List (DoOf (doL rel above all n))).map (·.1)) = X by simp [doSum]]; exact hbS, hbw0⟩, by simp [doSum]; omega⟩
    (fun x a' W => a' = { tmps := #[.int .i64 own, .int .i64 block, .int .i64 rel, .slice A1 n1 c1, .slice A2 n2 c2, .int .i64 n, undef, undef, undef, undef, undef, undef, .pointer (some ⟨w.heap.size, 0, none⟩), .pointer (some ⟨w.heap.size + 1, 0, none⟩), .pointer (some ⟨S, 0, none⟩), .int .i64 x.1.1, .int .i64 x.1.2, undef, undef, .int .i64 own, .int .i64 block, .int .i64 rel, .slice A1 n1 c1, .slice A2 n2 c2, .bool true, .bool false, .bool false, .int .i64 n, .bool false, .bool false, .bool false, .int .i64 n, .bool false, .bool false, .int .i64 own, .int .i64 block, .int .i64 (own + block), .int .i64 rel, .slice A1 n1 c1, .slice A2 n2 c2, .int .i64 n, .func (.func 99) #[] #[.pointer (some ⟨S + 1 + 1, 0, none⟩), .pointer (some ⟨S + 1 + 1 + 1 + 1 + 1, 0, none⟩), .pointer (some ⟨S + 1 + 1 + 1, 0, none⟩), .pointer (some ⟨S + 1, 0, none⟩)], .int .i64 x.1.1, .int .i64 x.1.2, undef, undef, undef, undef, undef, undef, undef, undef, undef, undef, undef, undef, undef, undef, undef, undef, undef, undef, undef, undef, undef], defers := [] })
    (fun x a' _ X Y row hs hg hr => hs) ?assign ?body ?done ?stop
  case assign =>
    rintro l pre ⟨⟨mx, wx⟩, hmem⟩ W K ⟨hI, hle⟩ hK
    unfold doA
    gi_wp2
    exact hK _ _ (KeepsFrom.refl _ _) ⟨Below.refl _ _, fun d => d⟩ ⟨hI, hle⟩ rfl
  case body =>
    rintro l pre ⟨⟨mx, wx⟩, hmem⟩ a' W hl hr ⟨hI, hle⟩ rfl hlt
    have hxb := HDN.out _ hmem
    have hpn := doSum_nonneg (l := pre.map (·.1)) (fun p hp => by
      obtain ⟨q, hq, rfl⟩ := List.mem_map.1 hp
      have := HDN.out _ q.2
      exact ⟨this.1.1, this.2.1⟩)
    simp only at hxb
    have hsn : doSum ((pre ++ [(⟨⟨mx, wx⟩, hmem⟩ : DoOf (doL rel above all n))]).map (·.1)) = doSum (pre.map (·.1)) + mx * wx := by rw [List.map_append, List.map_cons, List.map_nil, doSum_snoc]
    have HSN := hid hsn
    obtain ⟨D, hD⟩ : ∃ D, doSum (pre.map (·.1)) = D := ⟨_, rfl⟩
    rw [hD] at hle hpn hI HSN
    have HML := hid (qmul_any (w := W) mx wx hxb.1 hxb.2)
    have HAD := hid (fun V z hz => qadd_any (w := V) (X + D) z (by omega) hz)
    have hp0 := Int.mul_nonneg hxb.1.1 hxb.2.1
    obtain ⟨p, hp⟩ : ∃ p, mx * wx = p := ⟨_, rfl⟩
    rw [hp] at HML HSN hp0
    have HI := hid hI
    clear hsn hD hp hxb hI
    dsimp only
    gi_wp2
    refine ⟨trivial, fun hx => (by cases hx), (callsIn_wide (n := N - 1 - 1 - 1)).2 (HML.out.mono ?_)⟩
    rintro e W1 ⟨rfl, hb1⟩
    have hB1 := HI.out.below.trans (hb1.mono HI.out.below.size)
    have h12 := (fr0 hb1).blk HI.out.b12 (fun h => h)
    have h13 := (fr0 hb1).blk HI.out.b13 (fun h => h)
    have hsm := (fr0 hb1).blk HI.out.sum (fun h => h)
    have HI1 := hid (show WiAt w S (X + D) W1 from ⟨h12, h13, hsm, hB1⟩)
    have HKF := hid (keeps_fr (B := W0.heap.size) (fr0 hb1) (fun k h => h.elim))
    have HDK := hid (show DoK w (S + 1) rel n (.slice A1 n1 c1) (.slice A2 n2 c2) W W1 from ⟨hb1.mono HI.out.below.size, fun d => d.later hb1⟩)
    have d12 : W1.cell? ⟨w.heap.size, 0, none⟩ = some (.int .i64 0) := blk_cell h12 0
    have z12 : W1.frozen? ⟨w.heap.size, 0, none⟩ = false := blk_free h12 0
    have d13 : W1.cell? ⟨w.heap.size + 1, 0, none⟩ = some (.int .i64 0) := blk_cell h13 0
    have z13 : W1.frozen? ⟨w.heap.size + 1, 0, none⟩ = false := blk_free h13 0
    have dS : W1.cell? ⟨S, 0, none⟩ = some (.int .i64 (X + D)) := blk_cell hsm 0
    have zS : W1.frozen? ⟨S, 0, none⟩ = false := blk_free hsm 0
    have hT3 : ∀ k, Three w.heap.size (w.heap.size + 1) S k → k < W0.heap.size := fun k h => by rcases h with h | h | h <;> omega
    have HT3 := hid hT3
    clear hb1 hB1 h12 h13 hsm HI hT3
    by_cases hpm : p ≤ 9223372036854775807
    case neg =>
      rw [capI_none hpm]
      unfold okV
      have HE := hid (wx_put HI1.out hlt13)
      have HOV := hid (show 4611686018427387904 < X + (D + p) by omega)
      gi_wp2
      exact ⟨HKF.out.trans (keeps_fr HE.out.2 HT3.out), HE.out.1, rfl, by rw [HSN.out]; exact HOV.out⟩
    case pos =>
      rw [capI_some hpm]
      unfold okV
      have HA := hid (HAD.out W1 p ⟨hp0, hpm⟩)
      obtain ⟨z, hz⟩ : ∃ z, X + D + p = z := ⟨_, rfl⟩
      rw [hz] at HA
      have HZ := hid (show X + (D + p) = z by omega)
      clear HAD hpm
      gi_wp2
      refine ⟨trivial, fun hx => (by cases hx), (callsIn_wide (n := N - 1 - 1 - 1)).2 (HA.out.mono ?_)⟩
      rintro e W2 ⟨rfl, rfl⟩
      by_cases hzm : z ≤ 9223372036854775807
      case neg =>
        rw [capI_none hzm]
        unfold okV
        have HE0 := hid (wi_sum HI1.out hlt13 0)
        have HE := hid (wx_put HE0.out.1 hlt13)
        have HOV := hid (show 4611686018427387904 < X + (D + p) by rw [HZ.out]; omega)
        gi_wp2
        exact ⟨HKF.out.trans ((keeps_fr HE0.out.2 HT3.out).trans (keeps_fr HE.out.2 HT3.out)), HE.out.1, rfl, by rw [HSN.out]; exact HOV.out⟩
      case pos =>
        rw [capI_some hzm]
        unfold okV
        have HE0 := hid (wi_sum HI1.out hlt13 z)
        by_cases hzb : z ≤ 4611686018427387904
        case neg =>
          have hzd : decide (4611686018427387904 < z) = true := decide_eq_true (by omega)
          have hzl : 4611686018427387904 < z := by omega
          have HE := hid (wx_put HE0.out.1 hlt13)
          have HOV := hid (show 4611686018427387904 < X + (D + p) by rw [HZ.out]; omega)
          gi_wp2
          exact ⟨HKF.out.trans ((keeps_fr HE0.out.2 HT3.out).trans (keeps_fr HE.out.2 HT3.out)), HE.out.1, rfl, by rw [HSN.out]; exact HOV.out⟩
        case pos =>
          have hzd : decide (4611686018427387904 < z) = false := decide_eq_false (by omega)
          gi_wp2
          have hsz := HI1.out.below.size
          refine ⟨HKF.out.trans (keeps_fr HE0.out.2 HT3.out), doK_t HDK.out ⟨?_, ?_⟩, ?_, ?_⟩
          · exact below_of_fr HE0.out.2 hsz (fun k hk => by rcases hk with hk | hk | hk <;> omega)
          · intro d
            exact doAt_fr d HE0.out.2 (fun k hk h => by rcases h with h | h | h <;> omega)
          · rw [HSN.out, HZ.out]
            exact HE0.out.1
          · rw [HSN.out, HZ.out]
            exact hzb
  case done =>
    rintro D' ys W hD rfl ⟨hI, hle⟩ hK
    rw [List.attach_map_subtype_val] at hI hle
    have HV := hid (show withinV own block rel above all n = X + doSum (doL rel above all n) by unfold withinV; rw [HX.out])
    obtain ⟨z, hz⟩ : ∃ z, X + doSum (doL rel above all n) = z := ⟨_, rfl⟩
    rw [hz] at hI hle HV
    have HC := hid (show capB z = some z by unfold capB; rw [if_pos hle])
    clear hle hz
    have d12 : W.cell? ⟨w.heap.size, 0, none⟩ = some (.int .i64 0) := blk_cell hI.b12 0
    have z12 : W.frozen? ⟨w.heap.size, 0, none⟩ = false := blk_free hI.b12 0
    have d13 : W.cell? ⟨w.heap.size + 1, 0, none⟩ = some (.int .i64 0) := blk_cell hI.b13 0
    have z13 : W.frozen? ⟨w.heap.size + 1, 0, none⟩ = false := blk_free hI.b13 0
    have dS : W.cell? ⟨S, 0, none⟩ = some (.int .i64 z) := blk_cell hI.sum 0
    have hfr : Fr (Two w.heap.size (w.heap.size + 1)) W ((W.setCell ⟨w.heap.size, 0, none⟩ (.int .i64 z)).setCell ⟨w.heap.size + 1, 0, none⟩ (.int .i64 0)) := ((Fr.refl _ W).set (p := ⟨w.heap.size, 0, none⟩) (.inl (.inl rfl)) _).set (p := ⟨w.heap.size + 1, 0, none⟩) (.inl (.inr rfl)) _
    have e12 := blk_set_ne (blk_set hI.b12 0 (.int .i64 z)) (show w.heap.size ≠ w.heap.size + 1 by omega) 0 (.int .i64 0)
    have e13 := blk_set (blk_set_ne hI.b13 (show w.heap.size + 1 ≠ w.heap.size by omega) 0 (.int .i64 z)) 0 (.int .i64 0)
    have hK2 := hfr.blk hK (fun h => by rcases h with h | h <;> omega)
    have hbb : Below w.heap.size w ((W.setCell ⟨w.heap.size, 0, none⟩ (.int .i64 z)).setCell ⟨w.heap.size + 1, 0, none⟩ (.int .i64 0)) := ((Fr.of_below (S := NoB) hI.below).trans hfr (fun k hk => .inr (by rcases hk with hk | hk <;> omega))).no
    have HE := hid (And.intro e12 (And.intro e13 (And.intro hK2 hbb)))
    clear hI hfr e12 e13 hK2 hbb
    gi_wp2
    obtain ⟨e12, e13, hK2, hbb⟩ := HE.out
    generalize (W.setCell ⟨w.heap.size, 0, none⟩ (.int .i64 z)).setCell ⟨w.heap.size + 1, 0, none⟩ (.int .i64 0) = W2 at *
    have y0 : ∀ o', (W2.putObj D' o').cell? ⟨w.heap.size, 0, none⟩ = some (.int .i64 z) := fun o' => cell_put hK2 rfl (blk_cell e12 0)
    have y1 : ∀ o', (W2.putObj D' o').cell? ⟨w.heap.size + 1, 0, none⟩ = some (.int .i64 0) := fun o' => cell_put hK2 rfl (blk_cell e13 0)
    refine ⟨by simp, .inl ⟨_, _, rfl, run_takeDeferred hK2, ?_⟩⟩
    refine ⟨.tuple #[.int .i64 z, .int .i64 0], by simp [results, Try.results80, go_sem, y0, y1], by rw [HV.out, HC.out]; rfl, hbb.trans (belowK_b (w := w) (Nat.le_refl _) W2 D' _ _ (by omega) hK2 rfl rfl)⟩
  case stop =>
    rintro D' c pre W hD hpre ⟨hI, rfl, hov⟩ hK
    have HI := hid hI
    have HC := hid (show capB (withinV own block rel above all n) = none by
      have h1 : pre.map (·.1) = (doL rel above all n).take pre.length := by
        obtain ⟨t, ht⟩ := hpre
        have h2 : (doL rel above all n).attach.map (·.1) = doL rel above all n := List.attach_map_subtype_val _
        rw [← ht, List.map_append] at h2
        have h3 := congrArg (List.take pre.length) h2
        rw [List.take_left' (by simp)] at h3
        exact h3
      have h3 := doSum_take (l := doL rel above all n) (fun p hp => by have := HDN.out p hp; exact ⟨this.1.1, this.2.1⟩) pre.length
      rw [← h1] at h3
      unfold capB withinV
      rw [HX.out, if_neg (by omega)])
    clear hI
    gi_wp2
    have y0 : ∀ o', (W.putObj D' o').cell? ⟨w.heap.size, 0, none⟩ = some (.int .i64 0) := fun o' => cell_put hK rfl (blk_cell HI.out.b12 0)
    have y1 : ∀ o', (W.putObj D' o').cell? ⟨w.heap.size + 1, 0, none⟩ = some (.int .i64 2) := fun o' => cell_put hK rfl (blk_cell HI.out.b13 0)
    refine ⟨by simp, .inl ⟨_, _, rfl, run_takeDeferred hK, ?_⟩⟩
    refine ⟨.tuple #[.int .i64 0, .int .i64 2], by simp [results, Try.results80, go_sem, y0, y1], by rw [HC.out]; rfl, HI.out.below.trans (belowK_b (w := w) (Nat.le_refl _) W D' _ _ (by omega) hK rfl rfl)⟩
theorem within_any (own block rel : Int) (above all : List Ld) (A1 : Option Addr) (n1 c1 : Nat) (A2 : Option Addr) (n2 c2 : Nat) (n : Int) (hn : 0 ≤ n ∧ n ≤ 4611686018427387904)
    (h1 : Rowp 3 ldR w (.slice A1 n1 c1) above) (h2 : Rowp 3 ldR w (.slice A2 n2 c2) all) (hR : bndRightB own block rel above all = true) :
    Calls Try.prog 80 #[.int .i64 own, .int .i64 block, .int .i64 rel, .slice A1 n1 c1, .slice A2 n2 c2, .int .i64 n] w fun e w' => e = .returned (okV (capB (withinV own block rel above all n))) ∧ Below w.heap.size w w' :=
  callsIn_wide.1 (within_in 5 (by omega) own block rel above all A1 n1 c1 A2 n2 c2 n hn h1 h2 hR)
end
end Go.Proofs.Ytppildaahmlfmaa
/- Package response: Bound (contract). -/
set_option linter.unusedVariables false
set_option linter.unusedSimpArgs false
namespace Go.Proofs.Ytppildaahmlfmaa
open Go.RowKit

/-- A number and an error. -/
def numE (x : Int × Int) : Value := .tuple #[.int .i64 x.1, .int .i64 x.2]
theorem withinV_nonneg {own block rel n : Int} {above all : List Ld} (h : bndRightB own block rel above all = true) (hn : 0 ≤ n) : 0 ≤ withinV own block rel above all n := by
  obtain ⟨h1, h2, h3, h4, h5, _⟩ := bndRight_ok h
  have := doSum_nonneg (doL_nonneg h3.1 hn h4 h5)
  unfold withinV
  omega
section
variable {w : World}
set_option maxRecDepth 100000 in
set_option maxHeartbeats 4000000 in
theorem bound_any (own block rel : Int) (above all : List Ld) (A1 : Option Addr) (n1 c1 : Nat) (A2 : Option Addr) (n2 c2 : Nat) (limit : Int)
    (h1 : Rowp 3 ldR w (.slice A1 n1 c1) above) (h2 : Rowp 3 ldR w (.slice A2 n2 c2) all) :
    Calls Try.prog 63 #[.int .i64 own, .int .i64 block, .int .i64 rel, .slice A1 n1 c1, .slice A2 n2 c2, .int .i64 limit] w fun e w' => e = .returned (numE (boundV own block rel above all limit)) ∧ Below w.heap.size w w' := by
  have HR := hid (bright_any (w := w) own block rel above all A1 n1 c1 A2 n2 c2 h1 h2)
  have HW := hid (fun W (h : Below w.heap.size w W) n hn hR => within_any (w := W) own block rel above all A1 n1 c1 A2 n2 c2 n hn (h1.later ldR.stays h) (h2.later ldR.stays h) hR)
  clear h1 h2
  have HV := hid (show boundV own block rel above all limit = if bndRightB own block rel above all = true ∧ 1 ≤ limit ∧ limit ≤ 1099511627776 then boundS (withinV own block rel above all) limit 5000 1 else (0, 1) from rfl)
  obtain ⟨V, hV⟩ : ∃ V, boundV own block rel above all limit = V := ⟨_, rfl⟩
  rw [hV] at HV ⊢
  clear hV
  have HN := hid (fun hR n hn => withinV_nonneg (own := own) (block := block) (rel := rel) (above := above) (all := all) (n := n) hR hn)
  cases hr : bndRightB own block rel above all
  case false =>
    rw [hr] at HR
    have HV2 := hid (show V = (0, 1) by rw [HV.out, if_neg (by rw [hr]; simp)])
    clear HV hr
    go_enter Try.func63, Try.ntmps63
    go_wp2_with fail
    refine HR.out.mono ?_
    rintro e w1 ⟨rfl, hb⟩
    have HB := hid hb
    clear hb
    go_wp2_with fail
    go_ret2
    exact ⟨by rw [HV2.out]; rfl, HB.out⟩
  case true =>
    rw [hr] at HR
    have HRB := hid hr
    by_cases hl : 1 ≤ limit ∧ limit ≤ 1099511627776
    case neg =>
      have HV2 := hid (show V = (0, 1) by rw [HV.out, if_neg (fun h => hl h.2)])
      clear HV hr
      go_enter Try.func63, Try.ntmps63
      go_wp2_with fail
      refine HR.out.mono ?_
      rintro e w1 ⟨rfl, hb⟩
      have HB := hid hb
      clear hb
      by_cases h0 : limit < 1
      case pos =>
        have h0b : decide (limit < 1) = true := decide_eq_true h0
        go_wp2_with fail
        go_ret2
        exact ⟨by rw [HV2.out]; rfl, HB.out⟩
      case neg =>
        have h0b : decide (limit < 1) = false := decide_eq_false h0
        have h1b : decide (1099511627776 < limit) = true := decide_eq_true (by omega)
        go_wp2_with fail
        go_ret2
        exact ⟨by rw [HV2.out]; rfl, HB.out⟩
    case pos =>
      have HV2 := hid (show V = boundS (withinV own block rel above all) limit 5000 1 by rw [HV.out, if_pos ⟨hr, hl⟩])
      have h0b : decide (limit < 1) = false := decide_eq_false (by omega)
      have h1b : decide (1099511627776 < limit) = false := decide_eq_false (by omega)
      have HL := hid hl
      clear HV hr hl
      go_enter Try.func63, Try.ntmps63
      go_wp2_with fail
      refine HR.out.mono ?_
      rintro e w1 ⟨rfl, hb⟩
      have HB := hid hb
      clear hb
      go_wp2_with fail
      go_loopw [32, 14] (fun v u wr => ∃ (k : Nat) (n : Int), k ≤ 5000 ∧ v = .int .i64 ((5000 - k : Nat) : Int) ∧ u = .int .i64 n ∧ Hid (1 ≤ n ∧ n ≤ 1099511627776) ∧ Hid (V = boundS (withinV own block rel above all) limit k n) ∧ Hid (Below w.heap.size w wr)) (fun v _ _ => 5000 - (intOf v).toNat)
      case atStart => exact ⟨5000, 1, Nat.le_refl _, rfl, rfl, by exact hid (by omega), HV2, HB⟩
      case round =>
        obtain ⟨k, n, hk, rfl, rfl, HNR, HVK, HBr⟩ := hrel
        cases k with
        | zero =>
          go_wp2_with fail
          go_ret2
          exact ⟨by rw [HVK.out]; rfl, HBr.out⟩
        | succ k =>
          have HWI := hid (HW.out wr HBr.out n (by have := HNR.out; omega) HRB.out)
          have hw0 := HN.out HRB.out n (by have := HNR.out; omega)
          have HVS := hid (show V = if 4611686018427387904 < withinV own block rel above all n then (0, 2) else if withinV own block rel above all n ≤ n then (n, 0) else if limit < withinV own block rel above all n then (0, 12) else boundS (withinV own block rel above all) limit k (withinV own block rel above all n) from HVK.out)
          obtain ⟨m, hm⟩ : ∃ m, withinV own block rel above all n = m := ⟨_, rfl⟩
          rw [hm] at HWI HVS hw0
          have hkk : ((5000 - (k + 1) : Nat) : Int) < 5000 := by omega
          have hki : ((5000 - (k + 1) : Nat) : Int) + 1 = ((5000 - k : Nat) : Int) := by omega
          obtain ⟨q, hq⟩ : ∃ q, 5000 - (k + 1) = q := ⟨_, rfl⟩
          rw [hq] at hkk hki ⊢
          clear hm
          go_wp2_with fail
          refine HWI.out.mono ?_
          rintro e w2 ⟨rfl, hb2⟩
          have HB2 := hid (below_then HBr.out hb2)
          clear hb2
          by_cases hmb : m ≤ 4611686018427387904
          case neg =>
            have HV3 := hid (show V = (0, 2) by rw [HVS.out, if_pos (by omega)])
            rw [show capB m = none from if_neg hmb]
            unfold okV
            go_wp2_with fail
            go_ret2
            exact ⟨by rw [HV3.out]; rfl, HB2.out⟩
          case pos =>
            rw [show capB m = some m from if_pos hmb]
            unfold okV
            by_cases hmn : m ≤ n
            case pos =>
              have HV3 := hid (show V = (n, 0) by rw [HVS.out, if_neg (by omega), if_pos hmn])
              have d1 : decide (m ≤ n) = true := decide_eq_true hmn
              go_wp2_with fail
              go_ret2
              exact ⟨by rw [HV3.out]; rfl, HB2.out⟩
            case neg =>
              have d1 : decide (m ≤ n) = false := decide_eq_false hmn
              by_cases hml : limit < m
              case pos =>
                have HV3 := hid (show V = (0, 12) by rw [HVS.out, if_neg (by omega), if_neg hmn, if_pos hml])
                have d2 : decide (limit < m) = true := decide_eq_true hml
                go_wp2_with fail
                go_ret2
                exact ⟨by rw [HV3.out]; rfl, HB2.out⟩
              case neg =>
                have HV3 := hid (show V = boundS (withinV own block rel above all) limit k m by rw [HVS.out, if_neg (by omega), if_neg hmn, if_neg hml])
                have d2 : decide (limit < m) = false := decide_eq_false hml
                have HM := hid (show 1 ≤ m ∧ m ≤ 1099511627776 by have := HNR.out; have := HL.out; omega)
                go_wp2_with fail
                go_roundw
                case rel => exact ⟨k, m, by omega, (by first | rfl | exact int_eq hki), rfl, HM, HV3, HB2⟩
                case measure => simp [intOf]; omega
end
end Go.Proofs.Ytppildaahmlfmaa
/- Package demand: within, right, often, sum (contracts). -/
set_option linter.unusedVariables false
set_option linter.unusedSimpArgs false
namespace Go.Proofs.Ytppildaahmlfmaa
open Go.RowKit

def wkV (x : Wk) : Value := .agg #[.int .i64 x.work, .int .i64 x.per, .int .i64 x.dl, .bool x.top]
def wkR : Reads Wk := fun _ cs x => cs = [.int .i64 x.work, .int .i64 x.per, .int .i64 x.dl, .bool x.top]
theorem wkR.stays : Stays wkR := fun _ _ _ _ _ h => h
def inB (least n : Int) : Bool := decide (least ≤ n ∧ n ≤ 1099511627776)
theorem wkB_in (x : Wk) : wkB x = ([x.work].all (inB 0) && [x.per, x.dl].all (inB 1)) := by
  unfold wkB timeB inB; simp [Bool.and_assoc]
/-- A slice of a few numbers, just laid. -/
theorem two_row {W : World} {D : Nat} {a b : Int} (h : W.heap[D]? = some (.cells #[.int .i64 a, .int .i64 b] 3 (0, 0))) : Rowp 1 IntR W (.slice (some ⟨D, 0, none⟩) 2 2) [a, b] :=
  ⟨_, 2, rfl, by simp, by unfold maxLen; omega, fun i x hx => ⟨D, 0, [.int .i64 x], rfl, blk_lt h, rfl, fun j v hj => by
    have hj0 : j = 0 := by
      cases j with
      | zero => rfl
      | succ j => simp at hj
    subst hj0
    have hv : Value.int .i64 x = v := by simpa using hj
    rw [← hv, show (0 + i * 1 + 0) = i by omega, blk_cell h i]
    match i, hx with
    | 0, hx => simp at hx; subst hx; rfl
    | 1, hx => simp at hx; subst hx; rfl
    | i + 2, hx => simp at hx, rfl⟩⟩
theorem one_row {W : World} {D : Nat} {a : Int} (h : W.heap[D]? = some (.cells #[.int .i64 a] 3 (0, 0))) : Rowp 1 IntR W (.slice (some ⟨D, 0, none⟩) 1 1) [a] :=
  ⟨_, 1, rfl, by simp, by unfold maxLen; omega, fun i x hx => ⟨D, 0, [.int .i64 x], rfl, blk_lt h, rfl, fun j v hj => by
    have hj0 : j = 0 := by
      cases j with
      | zero => rfl
      | succ j => simp at hj
    subst hj0
    have hv : Value.int .i64 x = v := by simpa using hj
    rw [← hv, show (0 + i * 1 + 0) = i by omega, blk_cell h i]
    match i, hx with
    | 0, hx => simp at hx; subst hx; rfl
    | i + 1, hx => simp at hx, rfl⟩⟩
section
variable {w : World}
set_option maxRecDepth 100000 in
theorem din_any (least : Int) (l : List Int) (A : Option Addr) (n cap : Nat) (hl : Rowp 1 IntR w (.slice A n cap) l) :
    Calls Try.prog 71 #[.int .i64 least, .slice A n cap] w fun e w' => e = .returned (.bool (l.all (inB least))) ∧ w' = w := by
  have hn := hl.len
  have hnm : n ≤ 9223372036854775807 := by have := hl.room; unfold maxLen at this; omega
  have HN := hid hn
  have HL := hid hl
  clear hl hn
  go_enter Try.func71, Try.ntmps71
  go_wp2_with fail
  go_loopw [9] (fun v wr => ∃ k : Nat, k ≤ n ∧ v = .int .i64 k ∧ Hid (wr = w) ∧ Hid ((l.take k).all (inB least) = true)) (fun v _ => n - (intOf v).toNat)
  case atStart => exact ⟨0, by omega, rfl, hid rfl, rfl⟩
  case round =>
    obtain ⟨k, hk, rfl, HB, HF⟩ := hrel
    obtain rfl := HB.out
    by_cases hlt : k < n
    case pos =>
      obtain ⟨x, hx⟩ : ∃ x, l[k]? = some x := ⟨_, List.getElem?_eq_getElem (by have := HN.out; omega)⟩
      obtain ⟨b, o, cs, hA, hbl, _, hc, hr⟩ := HL.out.at hx
      subst hA
      have hr' : cs = [.int .i64 x] := hr
      subst hr'
      have HX := hid hx
      have e0 : wr.cell? ⟨b, o + k, none⟩ = some (.int .i64 x) := by simpa using hc 0 _ rfl
      clear hx hbl hc hr
      by_cases h0 : x < least
      case pos =>
        have HA := hid (all_no (p := inB least) HX.out (by unfold inB; exact decide_eq_false (by omega)))
        have h0b : decide (x < least) = true := decide_eq_true h0
        clear h0
        go_wp2_with fail
        go_ret
        exact ⟨by rw [HA.out]; rfl, rfl⟩
      case neg =>
        have h0b : decide (x < least) = false := decide_eq_false h0
        by_cases h1 : 1099511627776 < x
        case pos =>
          have HA := hid (all_no (p := inB least) HX.out (by unfold inB; exact decide_eq_false (by omega)))
          have h1b : decide (1099511627776 < x) = true := decide_eq_true h1
          go_wp2_with fail
          go_ret
          exact ⟨by rw [HA.out]; rfl, rfl⟩
        case neg =>
          have h1b : decide (1099511627776 < x) = false := decide_eq_false h1
          have HF2 := hid (show (l.take (k + 1)).all (inB least) = true by rw [all_take HX.out, HF.out, show inB least x = true from decide_eq_true (by omega)]; rfl)
          clear h0 h1
          go_wp2_with fail
          go_roundw
          case rel => exact ⟨k + 1, by omega, by go_num, hid trivial, HF2⟩
          case measure => simp [intOf]; omega
    case neg =>
      obtain rfl : k = n := by omega
      rw [HN.out, List.take_length] at HF
      go_wp2_with fail
      go_ret
      exact ⟨by rw [HF.out]; rfl, rfl⟩
set_option maxRecDepth 100000 in
set_option maxHeartbeats 1600000 in
theorem dright_any (l : List Wk) (A : Option Addr) (n cap : Nat) (block rel : Int) (hl : Rowp 4 wkR w (.slice A n cap) l) :
    Calls Try.prog 58 #[.slice A n cap, .int .i64 block, .int .i64 rel] w fun e w' => e = .returned (.bool (demRightB l block rel)) ∧ Below w.heap.size w w' := by
  have hn := hl.len
  have hnm : n ≤ 9223372036854775807 := by have := hl.room; unfold maxLen at this; omega
  have HN := hid hn
  have HL := hid hl
  have HU := hid (show demRightB l block rel = (l.all wkB && (decide (n ≤ 72) && [block, rel].all (inB 0))) by unfold demRightB timeB inB; rw [hn]; simp [Bool.and_assoc])
  have HIN := hid (fun W least z A n c hz => din_any (w := W) least z A n c hz)
  clear hl hn
  go_enter Try.func58, Try.ntmps58
  go_wp2_with fail
  go_loopw [11] (fun v wr => ∃ k : Nat, k ≤ n ∧ v = .int .i64 k ∧ Hid (Below w.heap.size w wr) ∧ Hid ((l.take k).all wkB = true)) (fun v _ => n - (intOf v).toNat)
  case atStart => exact ⟨0, by omega, rfl, hid (Below.refl _ _), rfl⟩
  case round =>
    obtain ⟨k, hk, rfl, HB, HF⟩ := hrel
    by_cases hlt : k < n
    case pos =>
      obtain ⟨x, hx⟩ : ∃ x, l[k]? = some x := ⟨_, List.getElem?_eq_getElem (by have := HN.out; omega)⟩
      obtain ⟨b, o, cs, hA, hbl, _, hc, hr⟩ := HL.out.at hx
      subst hA
      have hr' : cs = [.int .i64 x.work, .int .i64 x.per, .int .i64 x.dl, .bool x.top] := hr
      subst hr'
      have HX := hid hx
      have HWB := hid (wkB_in x)
      obtain ⟨v, hv⟩ : ∃ v, wkB x = v := ⟨_, rfl⟩
      have HV := hid hv
      rw [hv] at HWB
      obtain ⟨xa, xb, xc, xd⟩ := x
      simp only at hc HWB
      have e0 : wr.cell? ⟨b, o + k * 4, none⟩ = some (.int .i64 xa) := (HB.out.cell (p := ⟨b, o + k * 4, none⟩) hbl).trans (by simpa using hc 0 _ rfl)
      have e1 : wr.cell? ⟨b, o + k * 4 + 1, none⟩ = some (.int .i64 xb) := (HB.out.cell (p := ⟨b, o + k * 4 + 1, none⟩) hbl).trans (hc 1 _ rfl)
      have e2 : wr.cell? ⟨b, o + k * 4 + 2, none⟩ = some (.int .i64 xc) := (HB.out.cell (p := ⟨b, o + k * 4 + 2, none⟩) hbl).trans (hc 2 _ rfl)
      have e3 : wr.cell? ⟨b, o + k * 4 + 3, none⟩ = some (.bool xd) := (HB.out.cell (p := ⟨b, o + k * 4 + 3, none⟩) hbl).trans (hc 3 _ rfl)
      clear hx hbl hc hr hv
      obtain ⟨u1, hu1⟩ : ∃ u, [xa].all (inB 0) = u := ⟨_, rfl⟩
      obtain ⟨u2, hu2⟩ : ∃ u, [xb, xc].all (inB 1) = u := ⟨_, rfl⟩
      rw [hu1, hu2] at HWB
      have HU1 := hid hu1
      have HU2 := hid hu2
      clear hu1 hu2
      go_upto_region 4 with fail
      have hq7 := blk_new wr (.cells #[.int .i64 xa, .int .i64 xb, .int .i64 xc, .bool xd] 96)
      have hb7 := below_new HB.out (.cells #[.int .i64 xa, .int .i64 xb, .int .i64 xc, .bool xd] 96)
      obtain ⟨D, hD⟩ : ∃ D, wr.heap.size = D := ⟨_, rfl⟩
      rw [hD] at hq7 ⊢
      generalize wr.alloc (.cells #[.int .i64 xa, .int .i64 xb, .int .i64 xc, .bool xd] 96) = w7 at *
      clear hD e0 e1 e2 e3 HB
      have l0 : w7.cell? ⟨D, 0, none⟩ = some (.int .i64 xa) := blk_cell hq7 0
      have HQ8 := hid (blk_old hq7 (.cells #[.int .i64 xa] 3))
      have HB8 := hid (below_new hb7 (.cells #[.int .i64 xa] 3))
      have HE1 := hid (HIN.out _ 0 [xa] _ 1 1 (one_row (blk_new w7 (.cells #[.int .i64 xa] 3))))
      rw [HU1.out] at HE1
      clear hq7 hb7
      go_wp2_with fail
      refine HE1.out.mono ?_
      rintro e w8 ⟨rfl, rfl⟩
      clear l0 HE1
      cases u1
      case false =>
        have HA := hid (all_no (p := wkB) HX.out (by rw [HV.out, HWB.out]; rfl))
        go_wp2_with fail
        go_ret
        exact ⟨by rw [HU.out, HA.out]; rfl, HB8.out⟩
      case true =>
        obtain ⟨w9, hw9⟩ : ∃ w9, w7.alloc (.cells #[.int .i64 xa] 3) = w9 := ⟨_, rfl⟩
        rw [hw9] at HQ8 HB8 ⊢
        clear hw9
        have l1 : w9.cell? ⟨D, 1, none⟩ = some (.int .i64 xb) := blk_cell HQ8.out 1
        have l2 : w9.cell? ⟨D, 2, none⟩ = some (.int .i64 xc) := blk_cell HQ8.out 2
        have HB9 := hid (below_new HB8.out (.cells #[.int .i64 xb, .int .i64 xc] 3))
        have HE2 := hid (HIN.out _ 1 [xb, xc] _ 2 2 (two_row (blk_new w9 (.cells #[.int .i64 xb, .int .i64 xc] 3))))
        rw [HU2.out] at HE2
        go_wp2_with fail
        refine HE2.out.mono ?_
        rintro e wx ⟨rfl, rfl⟩
        clear l1 l2 HE2
        cases u2
        case false =>
          have HA := hid (all_no (p := wkB) HX.out (by rw [HV.out, HWB.out]; rfl))
          go_wp2_with fail
          go_ret
          exact ⟨by rw [HU.out, HA.out]; rfl, HB9.out⟩
        case true =>
          have HF2 := hid (show (l.take (k + 1)).all wkB = true by rw [all_take HX.out, HF.out, HV.out, HWB.out]; rfl)
          go_wp2_with fail
          go_roundw
          case rel => exact ⟨k + 1, by omega, by go_num, HB9, HF2⟩
          case measure => simp [intOf]; omega
    case neg =>
      obtain rfl : k = n := by omega
      rw [HN.out, List.take_length] at HF
      by_cases h0 : k ≤ 72
      case pos =>
        have h0b : decide ((k : Int) ≤ 72) = true := decide_eq_true (by omega)
        have h0c : (k : Int) ≤ 72 := by omega
        have HB9 := hid (below_new HB.out (.cells #[.int .i64 block, .int .i64 rel] 3))
        have HE2 := hid (HIN.out _ 0 [block, rel] _ 2 2 (two_row (blk_new wr (.cells #[.int .i64 block, .int .i64 rel] 3))))
        rw [HF.out, decide_eq_true h0] at HU
        obtain ⟨u, hu⟩ : ∃ u, [block, rel].all (inB 0) = u := ⟨_, rfl⟩
        rw [hu] at HE2 HU
        clear hu
        go_wp2_with fail
        refine HE2.out.mono ?_
        rintro e w2 ⟨rfl, rfl⟩
        go_wp2_with fail
        go_ret
        exact ⟨by rw [HU.out]; rfl, HB9.out⟩
      case neg =>
        have h0b : decide ((k : Int) ≤ 72) = false := decide_eq_false (by omega)
        rw [HF.out, decide_eq_false h0] at HU
        go_wp2_with fail
        go_ret
        exact ⟨by rw [HU.out]; rfl, HB.out⟩
end
end Go.Proofs.Ytppildaahmlfmaa
/- Package demand: often, sum, Ask, Busy's sum (contracts). -/
set_option linter.unusedVariables false
set_option linter.unusedSimpArgs false
namespace Go.Proofs.Ytppildaahmlfmaa
open Go.RowKit

theorem capI_le {x m : Int} (h : capI x = some m) : m = x ∧ m ≤ 9223372036854775807 := by
  unfold capI at h
  split at h
  · injection h with h; exact ⟨h.symm, by omega⟩
  · cases h
/-- A reckoning's number, if it has one, may be reckoned with. -/
def GoodO (o : Option Int) : Prop := ∀ m, o = some m → 0 ≤ m ∧ m ≤ 9223372036854775807
theorem good_capI {x : Int} (h : 0 ≤ x) : GoodO (capI x) := fun m hm => by obtain ⟨rfl, h2⟩ := capI_le hm; exact ⟨h, h2⟩
theorem good_bind {o : Option Int} {f : Int → Option Int} (h : GoodO o) (hf : ∀ m, 0 ≤ m ∧ m ≤ 9223372036854775807 → GoodO (f m)) : GoodO (o.bind f) := fun m hm => by
  cases o with
  | none => cases hm
  | some k => exact hf k (h k rfl) m hm
theorem good_often {t per more work : Int} (ht : 0 ≤ t) (hp : 1 ≤ per) (hm : 0 ≤ more) (hw : 0 ≤ work) : GoodO (oftenO t per more work) :=
  good_bind (good_capI (by have := cdiv_nonneg ht hp; omega)) (fun k hk => good_capI (Int.mul_nonneg hk.1 hw))
section
variable {w : World}
set_option maxRecDepth 100000 in
set_option maxHeartbeats 1600000 in
theorem doften_any (t per more work : Int) (ht : 0 ≤ t ∧ t ≤ 9223372036854775807) (hp : 1 ≤ per ∧ per ≤ 9223372036854775807) (hm : 0 ≤ more ∧ more ≤ 9223372036854775807) (hw : 0 ≤ work ∧ work ≤ 9223372036854775807) :
    Calls Try.prog 75 #[.int .i64 t, .int .i64 per, .int .i64 more, .int .i64 work] w fun e w' => e = .returned (okV (oftenO t per more work)) ∧ Below w.heap.size w w' := by
  have HC := hid (qceil_any (w := w) t per ht hp)
  have h1 := cdiv_le ht.1 hp.1
  have h2 := cdiv_nonneg ht.1 hp.1
  have HO := hid (show oftenO t per more work = (capI (cdiv t per + more)).bind fun k => capI (k * work) from rfl)
  obtain ⟨c, hc⟩ : ∃ c, cdiv t per = c := ⟨_, rfl⟩
  rw [hc] at HC HO h1 h2
  have HA := hid (fun W => qadd_any (w := W) c more ⟨h2, by omega⟩ hm)
  obtain ⟨s, hs⟩ : ∃ s, c + more = s := ⟨_, rfl⟩
  rw [hs] at HA HO
  have hs0 : 0 ≤ s := by omega
  have HMU := hid (fun W (h : s ≤ 9223372036854775807) => qmul_any (w := W) s work ⟨hs0, h⟩ hw)
  clear hc hs
  go_enter Try.func75, Try.ntmps75
  go_wp2_with fail
  refine HC.out.mono ?_
  rintro e w1 ⟨rfl, rfl⟩
  by_cases hsm : s ≤ 9223372036854775807
  case neg =>
    rw [capI_none hsm] at HA HO
    have HO2 := hid (show oftenO t per more work = none from HO.out)
    unfold okV at HA
    have HB := hid (Below.refl w1.heap.size w1)
    go_wp2_with fail
    refine (HA.out _).mono ?_
    rintro e w2 ⟨rfl, rfl⟩
    go_wp2_with fail
    go_ret2
    exact ⟨by rw [HO2.out]; rfl, HB.out⟩
  case pos =>
    rw [capI_some hsm] at HA HO
    have HO2 := hid (show oftenO t per more work = capI (s * work) from HO.out)
    unfold okV at HA
    have HM1 := hid (fun W => HMU.out W hsm)
    obtain ⟨p, hp⟩ : ∃ p, capI (s * work) = p := ⟨_, rfl⟩
    rw [hp] at HM1 HO2
    clear hp
    go_wp2_with fail
    refine (HA.out _).mono ?_
    rintro e w2 ⟨rfl, rfl⟩
    go_wp2_with fail
    refine (HM1.out _).mono ?_
    rintro e w3 ⟨rfl, hb⟩
    have HB := hid hb
    clear hb
    cases p with
    | none =>
      unfold okV
      go_wp2_with fail
      go_ret2
      exact ⟨by rw [HO2.out]; rfl, HB.out⟩
    | some p =>
      unfold okV
      go_wp2_with fail
      go_ret2
      exact ⟨by rw [HO2.out]; rfl, HB.out⟩
/-- sum, whatever function is handed over. -/
theorem sumO_none {α : Type} {f : α → Option Int} {n : Int} {x : α} {l : List α} (h : f x = none) : sumO f n (x :: l) = none := by simp [sumO, h]
theorem sumO_over {α : Type} {f : α → Option Int} {n m : Int} {x : α} {l : List α} (h : f x = some m) (k : capI (n + m) = none) : sumO f n (x :: l) = none := by simp [sumO, h, k]
theorem sumO_some {α : Type} {f : α → Option Int} {n m s : Int} {x : α} {l : List α} (h : f x = some m) (k : capI (n + m) = some s) : sumO f n (x :: l) = sumO f s l := by simp [sumO, h, k]
theorem drop_at {α : Type} {l : List α} {k : Nat} {x : α} (h : l[k]? = some x) : l.drop k = x :: l.drop (k + 1) := by
  obtain ⟨hk, rfl⟩ := List.getElem?_eq_some_iff.1 h
  exact List.drop_eq_getElem_cons hk
set_option maxRecDepth 100000 in
set_option maxHeartbeats 1600000 in
theorem dsum_any (g : Nat) (lb : Array Value) (hg : ∀ args w, (callFunc g args).run Try.prog w = .ok (.enter g args) w) (F : Wk → Option Int) (n0 : Int) (hn0 : 0 ≤ n0 ∧ n0 ≤ 9223372036854775807) (l : List Wk) (A : Option Addr) (n cap : Nat) (hl : Rowp 4 wkR w (.slice A n cap) l)
    (hF : ∀ x ∈ l, GoodO (F x)) (hf : ∀ W, Below w.heap.size w W → ∀ x ∈ l, Calls Try.prog g (#[wkV x] ++ lb) W fun e w' => e = .returned (okV (F x)) ∧ Below W.heap.size W w') :
    Calls Try.prog 73 #[.int .i64 n0, .slice A n cap, .func (.func g) #[] lb] w fun e w' => e = .returned (okV (sumO F n0 l)) ∧ Below w.heap.size w w' := by
  have hn := hl.len
  have hnm : n ≤ 9223372036854775807 := by have := hl.room; unfold maxLen at this; omega
  have HN := hid hn
  have HL := hid hl
  have HFG := hid hF
  have HFC := hid hf
  have HAD := hid (fun W a b ha hb => qadd_any (w := W) a b ha hb)
  have HST := hid (show sumO F n0 l = sumO F n0 (l.drop 0) by rw [List.drop_zero])
  obtain ⟨Z, hZ⟩ : ∃ Z, sumO F n0 l = Z := ⟨_, rfl⟩
  rw [hZ] at HST ⊢
  have HN0 := hid hn0
  clear hl hn hF hf hZ hn0
  go_enter Try.func73, Try.ntmps73
  go_wp2_with fail
  go_loopw [14, 0] (fun v u wr => ∃ (k : Nat) (s : Int), k ≤ n ∧ v = .int .i64 k ∧ u = .int .i64 s ∧ Hid (0 ≤ s ∧ s ≤ 9223372036854775807) ∧ Hid (Z = sumO F s (l.drop k)) ∧ Hid (Below w.heap.size w wr)) (fun v _ _ => n - (intOf v).toNat)
  case atStart => exact ⟨0, n0, by omega, rfl, rfl, HN0, HST, hid (Below.refl _ _)⟩
  case round =>
    obtain ⟨k, s, hk, rfl, rfl, HS, HZ, HB⟩ := hrel
    by_cases hlt : k < n
    case pos =>
      obtain ⟨x, hx⟩ : ∃ x, l[k]? = some x := ⟨_, List.getElem?_eq_getElem (by have := HN.out; omega)⟩
      obtain ⟨b, o, cs, hA, hbl, _, hc, hr⟩ := HL.out.at hx
      subst hA
      have hr' : cs = [.int .i64 x.work, .int .i64 x.per, .int .i64 x.dl, .bool x.top] := hr
      subst hr'
      have hxm := List.mem_of_getElem? hx
      have HG := hid (HFG.out x hxm)
      have HCL := hid (fun W h => HFC.out W h x hxm)
      have HDR := hid (drop_at hx)
      obtain ⟨fx, hfx⟩ : ∃ y, F x = y := ⟨_, rfl⟩
      have HFX := hid hfx
      rw [hfx] at HG HCL
      obtain ⟨xa, xb, xc, xd⟩ := x
      unfold wkV at HCL
      simp only at hc HCL
      have e0 : wr.cell? ⟨b, o + k * 4, none⟩ = some (.int .i64 xa) := (HB.out.cell (p := ⟨b, o + k * 4, none⟩) hbl).trans (by simpa using hc 0 _ rfl)
      have e1 : wr.cell? ⟨b, o + k * 4 + 1, none⟩ = some (.int .i64 xb) := (HB.out.cell (p := ⟨b, o + k * 4 + 1, none⟩) hbl).trans (hc 1 _ rfl)
      have e2 : wr.cell? ⟨b, o + k * 4 + 2, none⟩ = some (.int .i64 xc) := (HB.out.cell (p := ⟨b, o + k * 4 + 2, none⟩) hbl).trans (hc 2 _ rfl)
      have e3 : wr.cell? ⟨b, o + k * 4 + 3, none⟩ = some (.bool xd) := (HB.out.cell (p := ⟨b, o + k * 4 + 3, none⟩) hbl).trans (hc 3 _ rfl)
      clear hx hbl hc hr hfx hxm
      go_upto_region 4 with fail
      have hq7 := blk_new wr (.cells #[.int .i64 xa, .int .i64 xb, .int .i64 xc, .bool xd] 96)
      have HB7 := hid (below_new HB.out (.cells #[.int .i64 xa, .int .i64 xb, .int .i64 xc, .bool xd] 96))
      obtain ⟨D, hD⟩ : ∃ D, wr.heap.size = D := ⟨_, rfl⟩
      rw [hD] at hq7 ⊢
      generalize wr.alloc (.cells #[.int .i64 xa, .int .i64 xb, .int .i64 xc, .bool xd] 96) = w7 at *
      have l0 : w7.cell? ⟨D, 0, none⟩ = some (.int .i64 xa) := blk_cell hq7 0
      have l1 : w7.cell? ⟨D, 1, none⟩ = some (.int .i64 xb) := blk_cell hq7 1
      have l2 : w7.cell? ⟨D, 2, none⟩ = some (.int .i64 xc) := blk_cell hq7 2
      have l3 : w7.cell? ⟨D, 3, none⟩ = some (.bool xd) := blk_cell hq7 3
      have HC7 := hid (HCL.out w7 HB7.out)
      clear hD e0 e1 e2 e3 HB hq7
      go_wp2_with fail
      refine HC7.out.mono ?_
      rintro e w8 ⟨rfl, hb8⟩
      have HB8 := hid (below_then HB7.out hb8)
      clear l0 l1 l2 l3 hb8 HC7
      cases fx with
      | none =>
        have HZ2 := hid (show Z = none by rw [HZ.out, HDR.out, sumO_none HFX.out])
        unfold okV
        go_wp2_with fail
        go_ret2
        exact ⟨by rw [HZ2.out]; rfl, HB8.out⟩
      | some m =>
        have hm := HG.out m rfl
        have HA := hid (HAD.out w8 s m HS.out hm)
        obtain ⟨z, hz⟩ : ∃ z, s + m = z := ⟨_, rfl⟩
        have HZZ := hid hz
        rw [hz] at HA
        have hz0 : 0 ≤ z := by have := HS.out; omega
        clear hz
        unfold okV
        by_cases hzm : z ≤ 9223372036854775807
        case neg =>
          rw [capI_none hzm] at HA
          unfold okV at HA
          have HZ2 := hid (show Z = none by rw [HZ.out, HDR.out, sumO_over HFX.out (by rw [HZZ.out]; exact capI_none hzm)])
          go_wp2_with fail
          refine HA.out.mono ?_
          rintro e w9 ⟨rfl, rfl⟩
          go_wp2_with fail
          go_ret2
          exact ⟨by rw [HZ2.out]; rfl, HB8.out⟩
        case pos =>
          rw [capI_some hzm] at HA
          unfold okV at HA
          have HZ2 := hid (show Z = sumO F z (l.drop (k + 1)) by rw [HZ.out, HDR.out, sumO_some HFX.out (by rw [HZZ.out]; exact capI_some hzm)])
          go_wp2_with fail
          refine HA.out.mono ?_
          rintro e w9 ⟨rfl, rfl⟩
          go_wp2_with fail
          go_roundw
          case rel => exact ⟨k + 1, z, by omega, by go_num, rfl, hid ⟨hz0, hzm⟩, HZ2, HB8⟩
          case measure => simp [intOf]; omega
    case neg =>
      obtain rfl : k = n := by omega
      have HZ2 := hid (show Z = some s by rw [HZ.out, HN.out, List.drop_length]; rfl)
      go_wp2_with fail
      go_ret2
      exact ⟨by rw [HZ2.out]; rfl, HB.out⟩
end
end Go.Proofs.Ytppildaahmlfmaa
/- Package demand: Ask (contract). -/
set_option linter.unusedVariables false
set_option linter.unusedSimpArgs false
namespace Go.Proofs.Ytppildaahmlfmaa
open Go.RowKit

theorem good_ask {rel t : Int} {x : Wk} (hx : WkOk x) (ht : 1 ≤ t) (hr : 0 ≤ rel) : GoodO (askO rel t x) := by
  unfold askO
  have h1 := hx.p
  have h2 := hx.w
  have h3 := hx.d
  refine good_bind ?_ (fun m hm => good_bind (good_often (by omega) h1.1 (by omega) hr) (fun k hk => good_capI (by omega)))
  by_cases hT : x.top = true
  · rw [if_pos hT]; exact good_often (by omega) h1.1 (by omega) h2.1
  · rw [if_neg hT]
    by_cases hd : x.dl ≤ t
    · rw [if_pos hd]
      exact good_capI (Int.mul_nonneg (by have := Int.ediv_nonneg (a := t - x.dl) (b := x.per) (by omega) (by omega); omega) h2.1)
    · rw [if_neg hd]
      intro m hm
      injection hm with hm
      omega
section
variable {w : World}
set_option maxRecDepth 100000 in
set_option maxHeartbeats 3200000 in
theorem ask1_any (x : Wk) (hx : WkOk x) (t rel : Int) (ht : 1 ≤ t ∧ t ≤ 9223372036854775807) (hr : 0 ≤ rel ∧ rel ≤ 1099511627776) (Bt Br : Nat) (h1 : w.cell? ⟨Bt, 0, none⟩ = some (.int .i64 t)) (h2 : w.cell? ⟨Br, 0, none⟩ = some (.int .i64 rel)) :
    Calls Try.prog 77 #[wkV x, .pointer (some ⟨Bt, 0, none⟩), .pointer (some ⟨Br, 0, none⟩)] w fun e w' => e = .returned (okV (askO rel t x)) ∧ Below w.heap.size w w' := by
  have hp := hx.p
  have hw := hx.w
  have hd := hx.d
  have hlt := cell_lt h1
  have hlr := cell_lt h2
  have HO := hid (show askO rel t x = (if x.top = true then oftenO t x.per 1 x.work else if x.dl ≤ t then capI (((t - x.dl) / x.per + 1) * x.work) else some 0).bind fun n => (oftenO t x.per 2 rel).bind fun m => capI (n + m) from rfl)
  have HG1 := hid (good_often (t := t) (per := x.per) (more := 1) (work := x.work) (by omega) hp.1 (by omega) hw.1)
  have HG2 := hid (good_often (t := t) (per := x.per) (more := 2) (work := rel) (by omega) hp.1 (by omega) hr.1)
  have HD1 := hid (fun W => doften_any (w := W) t x.per 1 x.work (by omega) (by omega) (by omega) (by omega))
  have HD2 := hid (fun W => doften_any (w := W) t x.per 2 rel (by omega) (by omega) (by omega) (by omega))
  have HAD := hid (fun W a b ha hb => qadd_any (w := W) a b ha hb)
  have HMU := hid (fun W a b ha hb => qmul_any (w := W) a b ha hb)
  obtain ⟨p2, hp2⟩ : ∃ p, oftenO t x.per 2 rel = p := ⟨_, rfl⟩
  obtain ⟨p1, hp1⟩ : ∃ p, oftenO t x.per 1 x.work = p := ⟨_, rfl⟩
  rw [hp2] at HG2 HD2 HO
  rw [hp1] at HG1 HD1 HO
  obtain ⟨V, hV⟩ : ∃ V, askO rel t x = V := ⟨_, rfl⟩
  rw [hV] at HO ⊢
  clear hp2 hp1 hV
  obtain ⟨xa, xb, xc, xd⟩ := x
  unfold wkV
  simp only at HO HD1 HD2 hp hw hd ⊢
  have hq := blk_new w (.cells #[.int .i64 xa, .int .i64 xb, .int .i64 xc, .bool xd] 96)
  have hb0 := below_new (Below.refl w.heap.size w) (.cells #[.int .i64 xa, .int .i64 xb, .int .i64 xc, .bool xd] 96)
  have HQ0 := hid hq
  have HB0 := hid hb0
  have H1 := hid h1
  have H2 := hid h2
  have HLT := hid (And.intro hlt hlr)
  clear hq hb0 h1 h2 hlt hlr hx
  -- the end: what is added
  have HEND := hid (fun (W : World) (n1 : Int) (hn1 : 0 ≤ n1 ∧ n1 ≤ 9223372036854775807) (m : Int) (hm : 0 ≤ m ∧ m ≤ 9223372036854775807) => HAD.out W n1 m hn1 hm)
  go_enter Try.func77, Try.ntmps77
  go_upto_region 1 with fail
  obtain ⟨D, hD⟩ : ∃ D, w.heap.size = D := ⟨_, rfl⟩
  have hsD : D < (w.alloc (.cells #[.int .i64 xa, .int .i64 xb, .int .i64 xc, .bool xd] 96)).heap.size := by simp [hD]
  rw [hD] at HQ0 ⊢
  obtain ⟨w0, hw0⟩ : ∃ w0, w.alloc (.cells #[.int .i64 xa, .int .i64 xb, .int .i64 xc, .bool xd] 96) = w0 := ⟨_, rfl⟩
  rw [hw0] at HQ0 HB0 hsD ⊢
  clear hD hw0
  have HCELL := hid (fun W (h : Below w0.heap.size w0 W) => show W.cell? ⟨D, 0, none⟩ = some (.int .i64 xa) ∧ W.cell? ⟨D, 1, none⟩ = some (.int .i64 xb) ∧ W.cell? ⟨D, 2, none⟩ = some (.int .i64 xc) ∧ W.cell? ⟨D, 3, none⟩ = some (.bool xd) ∧ W.cell? ⟨Bt, 0, none⟩ = some (.int .i64 t) ∧ W.cell? ⟨Br, 0, none⟩ = some (.int .i64 rel) from by
    have hq := (fr0 h).blk HQ0.out (fun h => h)
    have hbw := below_then HB0.out h
    exact ⟨blk_cell hq 0, blk_cell hq 1, blk_cell hq 2, blk_cell hq 3, (hbw.cell (p := ⟨Bt, 0, none⟩) HLT.out.1).trans H1.out, (hbw.cell (p := ⟨Br, 0, none⟩) HLT.out.2).trans H2.out⟩)
  -- behind the switch: slots 6 and 7
  obtain ⟨l0, l1, l2, l3, lt, lr⟩ := HCELL.out w0 (Below.refl _ _)
  go_upto_block 0 with fail
  go_cut [6, 7] (fun s6 s7 wx => ∃ p : Option Int, s6 = .int .i64 (p.getD 0) ∧ s7 = .int .i64 (if p.isSome then 0 else 2) ∧ Hid (GoodO p) ∧ Hid (V = p.bind fun n => p2.bind fun m => capI (n + m)) ∧ Hid (Below w0.heap.size w0 wx))
  case first =>
    cases xd
    case true =>
      have HO2 := hid (show V = p1.bind fun n => p2.bind fun m => capI (n + m) from HO.out)
      go_wp2_with fail
      refine (HD1.out w0).mono ?_
      rintro e w1 ⟨rfl, hb1⟩
      have HB1 := hid hb1
      clear hb1
      cases p1 with
      | none =>
        unfold okV
        go_wp2_with fail
        go_meet
        exact ⟨none, rfl, rfl, HG1, HO2, HB1⟩
      | some m =>
        unfold okV
        go_wp2_with fail
        go_meet
        exact ⟨some m, rfl, rfl, HG1, HO2, HB1⟩
    case false =>
      by_cases htd : xc ≤ t
      case neg =>
        have HO2 := hid (show V = (some 0 : Option Int).bind fun n => p2.bind fun m => capI (n + m) by rw [HO.out, if_neg (by simp), if_neg htd])
        have hdb : decide (xc ≤ t) = false := decide_eq_false htd
        have HB1 := hid (Below.refl w0.heap.size w0)
        go_wp2_with fail
        go_meet
        exact ⟨some 0, rfl, rfl, hid (fun m hm => by injection hm with hm; omega), HO2, HB1⟩
      case pos =>
        have HO2 := hid (show V = (capI (((t - xc) / xb + 1) * xa)).bind fun n => p2.bind fun m => capI (n + m) by rw [HO.out, if_neg (by simp), if_pos htd])
        have hdb : decide (xc ≤ t) = true := decide_eq_true htd
        have hq0 : 0 ≤ (t - xc) / xb := Int.ediv_nonneg (by omega) (by omega)
        have hq1 : (t - xc) / xb ≤ t - xc := Int.ediv_le_self _ (by omega)
        have hqd : (t - xc).tdiv xb = (t - xc) / xb := Int.tdiv_eq_ediv_of_nonneg (by omega)
        have ew : IntKind.i64.wrap (t - xc) = t - xc := wraps_i64 _ (by omega) (by omega)
        obtain ⟨q, hq⟩ : ∃ q, (t - xc) / xb = q := ⟨_, rfl⟩
        rw [hq] at HO2 hq0 hq1 hqd
        have ew2 : IntKind.i64.wrap (q + 1) = q + 1 := wraps_i64 _ (by omega) (by omega)
        have ew3 : IntKind.i64.wrap q = q := wraps_i64 _ (by omega) (by omega)
        have hbz : ¬ xb = 0 := by omega
        have hb0 : (xb == 0) = false := beq_eq_false_iff_ne.2 (by omega)
        have HG3 := hid (good_capI (x := (q + 1) * xa) (Int.mul_nonneg (by omega) hw.1))
        obtain ⟨C, hC⟩ : ∃ C : World → Prop, C = fun W => Below w0.heap.size w0 W := ⟨_, rfl⟩
        have HC1 := hid (fun W (h : C W) => (HMU.out W (q + 1) xa (by omega) (by omega)).mono (fun e w' ⟨h1, h2⟩ => show e = Ending.returned (okV (capI ((q + 1) * xa))) ∧ C w' from ⟨h1, by rw [hC] at h ⊢; exact below_then h h2⟩))
        obtain ⟨p3, hp3⟩ : ∃ p, capI ((q + 1) * xa) = p := ⟨_, rfl⟩
        rw [hp3] at HC1 HO2 HG3
        have HF := hid (fun W (h : C W) => HCELL.out W (by rw [hC] at h; exact h))
        have HCE := hid hC
        have hC0 : C w0.drew := by rw [hC]; exact (Below.refl w0.heap.size w0).drew
        clear hC hp3 hq hq0 hq1
        go_upto_region 5 with fail
        clear l0 l1 l2 l3 lt lr
        cases p3 with
        | none =>
          unfold okV at HC1
          refine wp_region_class (C := C) (by kernel_rfl) (by kernel_rfl) hC0 ?_
          repeat (refine wpQuiet_step (fun K hK => ?_); rw [if_pos (by rfl)]; refine Exists.intro ?_ (And.intro (fun W HW => ?_) (hK _ ?_)); rotate_left; (focus (first | (go_simp; exact HC1.out W HW) | (obtain ⟨l0, l1, l2, l3, lt, lr⟩ := HF.out W HW; (go_simp); all_goals (with_reducible rfl)) | (go_simp; rw [if_neg hbz]; exact ⟨rfl, rfl⟩))); clear hK K; try simp only [Act.put, List.setIfInBounds_toArray, List.set_cons_zero, List.set_cons_succ])
          refine wpQuiet_nil ?_
          intro wd hwd
          rw [HCE.out] at hwd
          have HBD := hid hwd
          clear hwd
          go_wp2_with fail
          go_meet
          exact ⟨none, rfl, rfl, HG3, HO2, HBD⟩
        | some m =>
          unfold okV at HC1
          refine wp_region_class (C := C) (by kernel_rfl) (by kernel_rfl) hC0 ?_
          repeat (refine wpQuiet_step (fun K hK => ?_); rw [if_pos (by rfl)]; refine Exists.intro ?_ (And.intro (fun W HW => ?_) (hK _ ?_)); rotate_left; (focus (first | (go_simp; exact HC1.out W HW) | (obtain ⟨l0, l1, l2, l3, lt, lr⟩ := HF.out W HW; (go_simp); all_goals (with_reducible rfl)) | (go_simp; rw [if_neg hbz]; exact ⟨rfl, rfl⟩))); clear hK K; try simp only [Act.put, List.setIfInBounds_toArray, List.set_cons_zero, List.set_cons_succ])
          refine wpQuiet_nil ?_
          intro wd hwd
          rw [HCE.out] at hwd
          have HBD := hid hwd
          clear hwd
          go_wp2_with fail
          go_meet
          exact ⟨some m, rfl, rfl, HG3, HO2, HBD⟩
  obtain ⟨p, rfl, rfl, HGP, HVP, HBX⟩ := hcut
  clear l0 l1 l2 l3 lt lr
  obtain ⟨l0, l1, l2, l3, lt, lr⟩ := HCELL.out wc HBX.out
  cases p with
  | none =>
    simp only [Option.getD_none, Option.isSome_none]
    have HV2 := hid (show V = none from HVP.out)
    have HBE := hid (below_then HB0.out HBX.out)
    go_wp2_with fail
    go_ret2
    exact ⟨by rw [HV2.out]; rfl, HBE.out⟩
  | some n1 =>
    simp only [Option.getD_some, Option.isSome_some, if_true]
    have hn1 := HGP.out n1 rfl
    go_wp2_with fail
    refine (HD2.out _).mono ?_
    rintro e w2 ⟨rfl, hb2⟩
    have HB2 := hid (below_then (below_then HB0.out HBX.out) hb2)
    clear hb2 l0 l1 l2 l3 lt lr
    cases p2 with
    | none =>
      unfold okV
      have HV2 := hid (show V = none from HVP.out)
      go_wp2_with fail
      go_ret2
      exact ⟨by rw [HV2.out]; rfl, HB2.out⟩
    | some m =>
      have hm := HG2.out m rfl
      have HV2 := hid (show V = capI (n1 + m) from HVP.out)
      have HA := hid (HAD.out w2 n1 m hn1 hm)
      unfold okV
      obtain ⟨z, hz⟩ : ∃ z, capI (n1 + m) = z := ⟨_, rfl⟩
      rw [hz] at HA HV2
      clear hz
      cases z with
      | none =>
        unfold okV at HA
        go_wp2_with fail
        refine HA.out.mono ?_
        rintro e w3 ⟨rfl, rfl⟩
        go_wp2_with fail
        go_ret2
        exact ⟨by rw [HV2.out]; rfl, HB2.out⟩
      | some z =>
        unfold okV at HA
        go_wp2_with fail
        refine HA.out.mono ?_
        rintro e w3 ⟨rfl, rfl⟩
        go_wp2_with fail
        go_ret2
        exact ⟨by rw [HV2.out]; rfl, HB2.out⟩
end
end Go.Proofs.Ytppildaahmlfmaa
/- Package demand: Ask, full (contracts). -/
set_option linter.unusedVariables false
set_option linter.unusedSimpArgs false
namespace Go.Proofs.Ytppildaahmlfmaa
open Go.RowKit

theorem demRight_ok {l : List Wk} {block rel : Int} (h : demRightB l block rel = true) : (∀ x ∈ l, WkOk x) ∧ l.length ≤ 72 ∧ (0 ≤ block ∧ block ≤ 1099511627776) ∧ (0 ≤ rel ∧ rel ≤ 1099511627776) := by
  unfold demRightB timeB at h
  simp only [Bool.and_eq_true, decide_eq_true_eq, List.all_eq_true] at h
  exact ⟨fun x hx => wkB_ok (h.1.1.1 x hx), h.1.1.2, h.1.2, h.2⟩
/-- append of m values, just laid in a slice of their own. -/
theorem append_many {P : Program} {W : World} {ops : Array Oper} {rest : List Oper} {o : Oper} {a : Act} {Q : Exit → Act → World → Prop} (hgd : o.guard = none) (s x : Operand) (t : TypeId)
    (ho : o.op = .call { callee := .builtin .append, args := #[s, x], argTypes := #[t, t] })
    (base : Nat) (e : TypeId) (i : TypeInfo) (z : Value) (size bytes m : Nat) (ht : P.underlying t = some (.slice e)) (hi : P.info? e = some i) (hz : i.zero = some z)
    (hsize : i.size = size) (hby : i.bytes = bytes) (hzs : z.cells.size = size) (hsz : 0 < size)
    (cs : Array Value) (v : Value) (n : Nat) (xs : List Value) (hs : a.eval s = v) (B : Nat) (hx : a.eval x = .slice (some ⟨B, 0, none⟩) m m) (hB : B = W.heap.size) (hown : W.ownsRow base e size v n xs)
    (hcs : cs.size = m * size) (h1 : ∀ u ∈ cs.toList, u.oneCell' = true)
    (h63 : n + m ≤ maxLen) (hbytes : (n + m) * bytes ≤ 140737488355328) (hbase : base ≤ W.heap.size)
    (h : ∀ v' w', w'.ownsRow base e size v' (n + m) (xs ++ cs.toList) → Fr (fun k => v.ownBlock = some k) W w' → (v'.ownBlock = v.ownBlock ∨ v'.ownBlock = some (W.heap.size + 1)) → wpList P ops Q rest (a.put o.dst v') w') :
    wpList P ops Q (o :: rest) a (W.alloc (.cells cs e)) := by
  subst hB
  refine wpList_append_own_at (W.alloc (.cells cs e)) hgd s x t ho base e i z size bytes ht hi hz hsize hby hzs hsz v n xs hs (hown.alloc _) ⟨W.heap.size, 0, none⟩ m m cs.toList hx (by simp [hcs]) (cells_new _ _ _) h1 h63 hbytes (by simp; omega) ?_
  intro v' w' h2 h3 _ h5
  refine h v' w' h2 (((Fr.refl _ W).alloc _).grown h3 (fun k hk => .inl hk)) ?_
  simpa using h5
/-- Works and times, as full puts them together. -/
def fullL (rel : Int) (l : List Wk) : List (Int × Int) := l.flatMap fun x => [(x.work, x.per), (rel, x.per)]
theorem fullL_snoc (rel : Int) (l : List Wk) (x : Wk) : fullL rel (l ++ [x]) = fullL rel l ++ [(x.work, x.per), (rel, x.per)] := by simp [fullL]
theorem fullL_length (rel : Int) (l : List Wk) : (fullL rel l).length = 2 * l.length := by
  induction l with
  | nil => rfl
  | cons x l ih => unfold fullL at ih ⊢; rw [List.flatMap_cons, List.length_append, ih]; simp; omega
theorem load_full (rel : Int) (l : List Wk) : loadV (fullL rel l) = useV rel l := by
  induction l with
  | nil => rfl
  | cons x l ih =>
    show loadV ((x.work, x.per) :: (rel, x.per) :: fullL rel l) = _
    simp only [loadV, useV, ih]
    omega
section
variable {w : World}
set_option maxRecDepth 100000 in
set_option maxHeartbeats 1600000 in
theorem ask_any (l : List Wk) (A : Option Addr) (n cap : Nat) (block rel t : Int) (hl : Rowp 4 wkR w (.slice A n cap) l) (hR : demRightB l block rel = true) (ht : 1 ≤ t ∧ t ≤ 9223372036854775807) :
    Calls Try.prog 60 #[.slice A n cap, .int .i64 block, .int .i64 rel, .int .i64 t] w fun e w' => e = .returned (okV (askV l block rel t)) ∧ Below w.heap.size w w' := by
  obtain ⟨hok, _, hbl, hrl⟩ := demRight_ok hR
  have HR := hid (fun W (h : Below w.heap.size w W) => dright_any (w := W) l A n cap block rel (hl.later wkR.stays h))
  rw [hR] at HR
  have q0 := blk_old (blk_new w (.cells #[.int .i64 rel] 3)) (.cells #[.int .i64 t] 3)
  have q1 := blk_new (w.alloc (.cells #[.int .i64 rel] 3)) (.cells #[.int .i64 t] 3)
  rw [show ∀ o, (w.alloc o).heap.size = w.heap.size + 1 from fun o => by simp] at q1
  have hb0 := below_new (below_new (Below.refl w.heap.size w) (.cells #[.int .i64 rel] 3)) (.cells #[.int .i64 t] 3)
  have HS := hid (fun W (h : Below w.heap.size w W) (hr : W.cell? ⟨w.heap.size, 0, none⟩ = some (.int .i64 rel)) (htt : W.cell? ⟨w.heap.size + 1, 0, none⟩ = some (.int .i64 t)) =>
    dsum_any (w := W) 77 #[.pointer (some ⟨w.heap.size + 1, 0, none⟩), .pointer (some ⟨w.heap.size, 0, none⟩)] (enters_of Try.func77 (by kernel_rfl) rfl) (askO rel t) block (by omega) l A n cap (hl.later wkR.stays h) (fun x hx => good_ask (hok x hx) ht.1 hrl.1)
      (fun V hV x hx => ask1_any (w := V) x (hok x hx) t rel ht hrl (w.heap.size + 1) w.heap.size ((hV.cell (p := ⟨w.heap.size + 1, 0, none⟩) (cell_lt htt)).trans htt) ((hV.cell (p := ⟨w.heap.size, 0, none⟩) (cell_lt hr)).trans hr)))
  have HO := hid (show askV l block rel t = sumO (askO rel t) block l from rfl)
  have HB0 := hid hb0
  have HQ0 := hid q0
  have HQ1 := hid q1
  have htd : decide (t < 1) = false := decide_eq_false (by omega)
  obtain ⟨V, hV⟩ : ∃ V, askV l block rel t = V := ⟨_, rfl⟩
  rw [hV] at HO ⊢
  rw [show @sumO = @sumO from rfl] at HS
  clear hl hR hok hb0 q0 q1 hV
  go_enter Try.func60, Try.ntmps60
  go_wp2_with fail
  refine (HR.out _ HB0.out).mono ?_
  rintro e w1 ⟨rfl, hb1⟩
  have HB1 := hid (below_then HB0.out hb1)
  have hq0 := (fr0 hb1).blk HQ0.out (fun h => h)
  have hq1 := (fr0 hb1).blk HQ1.out (fun h => h)
  have l0 : w1.cell? ⟨w.heap.size, 0, none⟩ = some (.int .i64 rel) := blk_cell hq0 0
  have l1 : w1.cell? ⟨w.heap.size + 1, 0, none⟩ = some (.int .i64 t) := blk_cell hq1 0
  have HS1 := hid (HS.out w1 HB1.out l0 l1)
  rw [← HO.out] at HS1
  clear hb1 hq0 hq1 HS HR HO
  go_wp2_with fail
  refine HS1.out.mono ?_
  rintro e w2 ⟨rfl, hb2⟩
  have HB2 := hid (below_then HB1.out hb2)
  clear hb2
  cases V with
  | none =>
    unfold okV
    go_wp2_with fail
    go_ret2
    exact ⟨rfl, HB2.out⟩
  | some z =>
    unfold okV
    go_wp2_with fail
    go_ret2
    exact ⟨rfl, HB2.out⟩
set_option maxRecDepth 100000 in
set_option maxHeartbeats 3200000 in
theorem full_any (l : List Wk) (A : Option Addr) (n cap : Nat) (rel : Int) (hl : Rowp 4 wkR w (.slice A n cap) l) (hok : ∀ x ∈ l, WkOk x) (hn72 : n ≤ 72) (hrl : 0 ≤ rel ∧ rel ≤ 1099511627776) :
    Calls Try.prog 72 #[.slice A n cap, .int .i64 rel] w fun e w' => e = .returned (.bool (fullB l rel)) ∧ Below w.heap.size w w' := by
  have hn := hl.len
  have HN := hid hn
  have HL := hid hl
  have HOK := hid hok
  have HLD := hid (fun W (Z : List (Int × Int)) A1 m c1 A2 c2 h1 h2 hz => qload_any (w := W) Z A1 m c1 A2 m c2 h1 h2 hz)
  obtain ⟨i0, hi, hz0, hz1, hz2⟩ := info_parts Try.info_int
  clear hl hn hok
  go_enter Try.func72, Try.ntmps72
  go_wp2_with fail
  go_loopw [13, 5, 6] (fun v u5 u6 wr => ∃ k : Nat, k ≤ n ∧ v = .int .i64 k ∧ Hid (wr.ownsRow w.heap.size 3 1 u5 (2 * k) (intCells ((fullL rel (l.take k)).map (·.1)))) ∧ Hid (wr.ownsRow w.heap.size 3 1 u6 (2 * k) (intCells ((fullL rel (l.take k)).map (·.2)))) ∧ Hid (Apart u5 u6) ∧ Hid (Below w.heap.size w wr)) (fun v _ _ _ => n - (intOf v).toNat)
  case atStart => exact ⟨0, by omega, rfl, hid (World.ownsRow_nil _ _ _ _), hid (World.ownsRow_nil _ _ _ _), hid (Apart.nil _), hid (Below.refl _ _)⟩
  case round =>
    obtain ⟨k, hk, rfl, HO5, HO6, HAP, HB⟩ := hrel
    obtain ⟨A5, c5, rfl⟩ := own_slice HO5.out
    obtain ⟨A6, c6, rfl⟩ := own_slice HO6.out
    by_cases hlt : k < n
    case pos =>
      obtain ⟨x, hx⟩ : ∃ x, l[k]? = some x := ⟨_, List.getElem?_eq_getElem (by have := HN.out; omega)⟩
      obtain ⟨b, o, cs, hA, hbl, _, hc, hr⟩ := HL.out.at hx
      subst hA
      have hr' : cs = [.int .i64 x.work, .int .i64 x.per, .int .i64 x.dl, .bool x.top] := hr
      subst hr'
      have HF1 := hid (show intCells ((fullL rel (l.take (k + 1))).map (·.1)) = intCells ((fullL rel (l.take k)).map (·.1)) ++ #[Value.int .i64 x.work, Value.int .i64 rel].toList by rw [take_next hx, fullL_snoc]; simp [intCells])
      have HF2 := hid (show intCells ((fullL rel (l.take (k + 1))).map (·.2)) = intCells ((fullL rel (l.take k)).map (·.2)) ++ #[Value.int .i64 x.per, Value.int .i64 x.per].toList by rw [take_next hx, fullL_snoc]; simp [intCells])
      obtain ⟨xa, xb, xc, xd⟩ := x
      simp only at hc HF1 HF2
      have e0 : wr.cell? ⟨b, o + k * 4, none⟩ = some (.int .i64 xa) := (HB.out.cell (p := ⟨b, o + k * 4, none⟩) hbl).trans (by simpa using hc 0 _ rfl)
      have e1 : wr.cell? ⟨b, o + k * 4 + 1, none⟩ = some (.int .i64 xb) := (HB.out.cell (p := ⟨b, o + k * 4 + 1, none⟩) hbl).trans (hc 1 _ rfl)
      have e2 : wr.cell? ⟨b, o + k * 4 + 2, none⟩ = some (.int .i64 xc) := (HB.out.cell (p := ⟨b, o + k * 4 + 2, none⟩) hbl).trans (hc 2 _ rfl)
      have e3 : wr.cell? ⟨b, o + k * 4 + 3, none⟩ = some (.bool xd) := (HB.out.cell (p := ⟨b, o + k * 4 + 3, none⟩) hbl).trans (hc 3 _ rfl)
      clear hx hbl hc hr
      obtain ⟨X1, hX1⟩ : ∃ X, intCells ((fullL rel (l.take k)).map (·.1)) = X := ⟨_, rfl⟩
      obtain ⟨X2, hX2⟩ : ∃ X, intCells ((fullL rel (l.take k)).map (·.2)) = X := ⟨_, rfl⟩
      rw [hX1] at HO5 HF1
      rw [hX2] at HO6 HF2
      clear hX1 hX2
      go_upto_region 5 with fail
      have hq7 := blk_new wr (.cells #[.int .i64 xa, .int .i64 xb, .int .i64 xc, .bool xd] 96)
      have HB7 := hid (below_new HB.out (.cells #[.int .i64 xa, .int .i64 xb, .int .i64 xc, .bool xd] 96))
      have HO57 := hid (HO5.out.alloc (.cells #[.int .i64 xa, .int .i64 xb, .int .i64 xc, .bool xd] 96))
      have HO67 := hid (HO6.out.alloc (.cells #[.int .i64 xa, .int .i64 xb, .int .i64 xc, .bool xd] 96))
      obtain ⟨D, hD⟩ : ∃ D, wr.heap.size = D := ⟨_, rfl⟩
      have HNE5 := hid (show ∀ k', (Value.slice A5 (2 * k) c5).ownBlock = some k' → k' ≠ D from fun k' hk' e => by have := (HO5.out.lt k' hk').2; omega)
      rw [hD] at hq7 ⊢
      generalize wr.alloc (.cells #[.int .i64 xa, .int .i64 xb, .int .i64 xc, .bool xd] 96) = w7 at *
      have l0 : w7.cell? ⟨D, 0, none⟩ = some (.int .i64 xa) := blk_cell hq7 0
      have HQ7 := hid hq7
      have hsz7 := HB7.out.size
      clear hD e0 e1 e2 e3 HB hq7 HO5 HO6
      go_wp2_with (at_builtin; refine append_many (W := w7) rfl _ _ 27 rfl w.heap.size 3 i0 _ 1 8 2 Try.underlying27 hi hz0 hz1 hz2 rfl (by decide) #[.int .i64 xa, .int .i64 rel] (.slice A5 (2 * k) c5) (2 * k) X1 rfl _ rfl rfl HO57.out rfl (two_one _ _) (by unfold maxLen; omega) (by omega) hsz7 ?_)
      intro v8 w8 ho8 hf8 hl8
      have hb8 : Below w.heap.size w w8 := ((Fr.of_below (S := NoB) HB7.out).trans hf8 (fun b hb => .inr (own_ge HO57.out b hb))).no
      have ho6 := own_kept HO67.out hf8 (fun b hb e => HAP.out b e hb)
      have hap : Apart v8 (.slice A6 (2 * k) c6) := HAP.out.grown hl8 HO67.out (Nat.le_succ _)
      have hq8 := hf8.blk HQ7.out (fun h => HNE5.out _ h rfl)
      obtain ⟨A8, c8, rfl⟩ := own_slice ho8
      rw [← HF1.out] at ho8
      have HO8 := hid ho8
      have HO68 := hid ho6
      have HAP8 := hid hap
      have HB8 := hid hb8
      have HQ8 := hid hq8
      have hsz8 := hb8.size
      have m1 : w8.cell? ⟨D, 1, none⟩ = some (.int .i64 xb) := blk_cell hq8 1
      clear ho8 hf8 hl8 hb8 ho6 hap hq8 l0 HO57 HO67 HAP HB7 HQ7
      go_wp2_with (at_builtin; refine append_many (W := w8) rfl _ _ 27 rfl w.heap.size 3 i0 _ 1 8 2 Try.underlying27 hi hz0 hz1 hz2 rfl (by decide) #[.int .i64 xb, .int .i64 xb] (.slice A6 (2 * k) c6) (2 * k) X2 rfl _ rfl rfl HO68.out rfl (two_one _ _) (by unfold maxLen; omega) (by omega) hsz8 ?_)
      intro v9 w9 ho9 hf9 hl9
      have hb9 : Below w.heap.size w w9 := ((Fr.of_below (S := NoB) HB8.out).trans hf9 (fun b hb => .inr (own_ge HO68.out b hb))).no
      have ho5 := own_kept HO8.out hf9 (fun b hb e => HAP8.out b hb e)
      have hap : Apart v9 (.slice A8 (2 * k + 2) c8) := HAP8.out.symm.grown hl9 HO8.out (Nat.le_succ _)
      rw [← HF2.out] at ho9
      have HO9 := hid ho9
      have HO59 := hid ho5
      have HAP9 := hid hap.symm
      have HB9 := hid hb9
      clear ho9 hf9 hl9 hb9 ho5 hap m1
      go_wp2_with fail
      go_roundw
      case rel => exact ⟨k + 1, by omega, by go_num, HO59, HO9, HAP9, HB9⟩
      case measure => simp [intOf]; omega
    case neg =>
      obtain rfl : k = n := by omega
      have ho5 := HO5.out
      have ho6 := HO6.out
      have htk : l.take k = l := by rw [HN.out, List.take_length]
      rw [htk] at ho5 ho6
      have HLQ := hid (HLD.out wr (fullL rel l) A5 (2 * k) c5 A6 c6 (Rowp.ints ho5 (by rw [List.length_map, fullL_length, HN.out])) (Rowp.ints ho6 (by rw [List.length_map, fullL_length, HN.out])) (fun x hx => by
        unfold fullL at hx
        obtain ⟨y, hy, hx⟩ := List.mem_flatMap.1 hx
        have hyo := HOK.out y hy
        have h1 := hyo.w
        have h2 := hyo.p
        simp at hx
        rcases hx with rfl | rfl
        · simp only; omega
        · simp only; omega))
      rw [load_full] at HLQ
      have HFB := hid (show fullB l rel = decide (4294967296 < useV rel l) from rfl)
      obtain ⟨z, hz⟩ : ∃ z, useV rel l = z := ⟨_, rfl⟩
      rw [hz] at HLQ HFB
      clear hz ho5 ho6 htk
      by_cases hzm : z ≤ 9223372036854775807
      case neg =>
        rw [capI_none hzm] at HLQ
        unfold okV at HLQ
        have HF2 := hid (show fullB l rel = true by rw [HFB.out]; exact decide_eq_true (by omega))
        go_wp2_with fail
        refine HLQ.out.mono ?_
        rintro e w2 ⟨rfl, hb2⟩
        have HB2 := hid (below_then HB.out hb2)
        clear hb2
        go_wp2_with fail
        go_ret
        exact ⟨by rw [HF2.out]; rfl, HB2.out⟩
      case pos =>
        rw [capI_some hzm] at HLQ
        unfold okV at HLQ
        obtain ⟨v, hv⟩ : ∃ v, decide (4294967296 < z) = v := ⟨_, rfl⟩
        rw [hv] at HFB
        go_wp2_with fail
        refine HLQ.out.mono ?_
        rintro e w2 ⟨rfl, hb2⟩
        have HB2 := hid (below_then HB.out hb2)
        clear hb2
        go_wp2_with fail
        go_ret
        exact ⟨by rw [HFB.out]; rfl, HB2.out⟩
end
end Go.Proofs.Ytppildaahmlfmaa
