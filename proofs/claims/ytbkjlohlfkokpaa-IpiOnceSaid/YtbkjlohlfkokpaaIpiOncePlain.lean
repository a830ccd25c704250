/- IpiOnce, plain: a row of 48 ticks says when each note is due. -/
import Derived.Test.YtbkjlohlfkokpaaIpiSt
import Derived.Test.YtbkjlohlfkokpaaLockPlain
set_option linter.unusedVariables false
set_option linter.unusedSimpArgs false
namespace Go.Proofs.Ytbkjlohlfkokpaa
open Go.RowKit

theorem ipipick_any {w : World} (c n : Int) (h0 : -9223372036854775808 ≤ c) (h1 : c ≤ 9223372036854775807) (hn : 0 < n) (hn2 : n ≤ 1099511627776) :
    Calls Try.prog 19 #[.int .i64 c, .int .i64 n] w fun e w' => e = .returned (.int .i64 (pickN c n)) ∧ w' = w := by
  have hn0 : (n == 0) = false := beq_eq_false_iff_ne.2 (by omega)
  have hn1 : (n == -1) = false := beq_eq_false_iff_ne.2 (by omega)
  by_cases h : c < 0
  · have e := hid (show pickN c n = -((c + 1).tmod n) by unfold pickN; rw [if_pos h, ← Int.neg_tmod, Int.tmod_eq_emod_of_nonneg (by omega)])
    go_enter Try.func19, Try.ntmps19
    go_wp2
    go_ret
    exact ⟨ret_eq (by rw [e.out]; rfl), rfl⟩
  · have e := hid (show pickN c n = c % n by unfold pickN; rw [if_neg h])
    go_enter Try.func19, Try.ntmps19
    go_wp2
    go_ret
    exact ⟨ret_eq (by rw [e.out]; rfl), rfl⟩

def valF (o : Option (Int × Int)) : Int := match o with | none => 0 | some q => q.1
/-- The row D says when each note is due. -/
structure DR (f : Int × Int → Option (Int × Int)) (D : List Int) : Prop where
  len : D.length = 48
  val : ∀ c t : Nat, c < 2 → t < 24 → D[c * 24 + t]? = some (valF (f ((c : Int), (t : Int))))
theorem DR.zero : DR (fS []) (List.replicate 48 0) := ⟨by simp, fun c t hc ht => by
  rw [List.getElem?_replicate, if_pos (by omega)]; rfl⟩
theorem DR.set {f g : Int × Int → Option (Int × Int)} {D : List Int} (h : DR f D) {c t : Nat} (hc : c < 2) (ht : t < 24) (v : Int) (hv : valF (g ((c : Int), (t : Int))) = v) (ho : ∀ p, p ≠ ((c : Int), (t : Int)) → g p = f p) : DR g (D.set (c * 24 + t) v) := by
  refine ⟨by rw [List.length_set]; exact h.len, fun c' t' hc' ht' => ?_⟩
  by_cases e : c = c' ∧ t = t'
  · obtain ⟨rfl, rfl⟩ := e
    rw [List.getElem?_set_self (by have := h.len; omega), hv]
  · rw [List.getElem?_set_ne (by omega), h.val c' t' hc' ht', ho]
    intro e2
    injection e2 with e2 e3
    exact e ⟨by omega, by omega⟩
/-- When the notes are due: those of the cores ahead of j have been taken in this tick. -/
def Ahead (now j : Int) (S : List Nt) : Prop := ∀ x ∈ S, now ≤ x.d ∧ (x.c < j → now < x.d) ∧ x.d ≤ 149
theorem Ahead.nil (now j : Int) : Ahead now j [] := fun _ h => by cases h
theorem Ahead.rest {now j : Int} {S : List Nt} (h : Ahead now j S) : Ahead now (j + 1) (restS S j now) := fun x hx => by
  obtain ⟨h1, h2⟩ := List.mem_filter.1 hx
  have := h x h1
  refine ⟨this.1, fun hc => ?_, this.2.2⟩
  by_cases hj : x.c = j
  · unfold dueI at h2
    simp [hj] at h2
    exact h2
  · exact this.2.1 (by omega)
theorem Ahead.next {now : Int} {S : List Nt} {T : Int} (hi : NtInv 2 T S) (h : Ahead now 2 S) : Ahead (now + 1) 0 S := fun x hx => by
  have h1 := h x hx
  have h2 := hi.bd x hx
  exact ⟨by have := h1.2.1 (by omega); omega, fun hc => by omega, h1.2.2⟩
theorem Ahead.send {now : Int} {S : List Nt} {x : Nt} (h : Ahead now 2 S) (hx : now < x.d ∧ x.d ≤ 149) : Ahead now 2 (S ++ [x]) := fun y hy => by
  rcases List.mem_append.1 hy with hy | hy
  · exact h y hy
  · rw [List.mem_singleton.1 hy]; exact ⟨by omega, fun _ => hx.1, hx.2⟩
theorem takeS_mem {S : List Nt} {core now T cores : Int} (hi : NtInv cores T S) {x : Nt} : x ∈ takeS S core now ↔ x ∈ S ∧ x.c = core ∧ x.d ≤ now := by
  have hp : (takeS S core now).Perm (S.filter (dueI core now)) := sortN_perm (hi.turns.sublist List.filter_sublist)
  rw [hp.mem_iff, List.mem_filter]
  unfold dueI
  simp
theorem takeS_nodup {S : List Nt} {core now T cores : Int} (hi : NtInv cores T S) : ((takeS S core now).map Nt.t).Nodup := by
  have hp : (takeS S core now).Perm (S.filter (dueI core now)) := sortN_perm (hi.turns.sublist List.filter_sublist)
  refine (hp.map Nt.t).symm.nodup ?_
  have h1 : ((S.filter (dueI core now)).map Nt.key).Nodup := ((List.filter_sublist (l := S)).map Nt.key).nodup hi.nodup
  rw [List.Nodup, List.pairwise_map] at h1 ⊢
  refine h1.imp_of_mem (fun {a b} ha hb hne e => hne ?_)
  have ha2 := (List.mem_filter.1 ha).2
  have hb2 := (List.mem_filter.1 hb).2
  unfold dueI at ha2 hb2
  simp at ha2 hb2
  unfold Nt.key
  rw [ha2.1, hb2.1, e]
/-- How many are due. -/
def cntD (D : List Int) (c : Nat) (now : Int) (k : Nat) : Nat := ((List.range k).filter (fun t => decide (D.getD (c * 24 + t) 0 = now) && decide (0 < now))).length
theorem cntD_zero (D : List Int) (c : Nat) (now : Int) : cntD D c now 0 = 0 := rfl
theorem cntD_succ (D : List Int) (c : Nat) (now : Int) (k : Nat) : cntD D c now (k + 1) = cntD D c now k + (if D.getD (c * 24 + k) 0 = now ∧ 0 < now then 1 else 0) := by
  unfold cntD
  rw [List.range_succ, List.filter_append, List.length_append]
  congr 1
  by_cases h : D.getD (c * 24 + k) 0 = now ∧ 0 < now
  · rw [if_pos h, List.filter_cons, if_pos (by rw [decide_eq_true h.1, decide_eq_true h.2]; rfl)]
    rfl
  · rw [if_neg h]
    rw [List.filter_cons, if_neg (by simpa using h)]
    rfl
theorem cntD_le (D : List Int) (c : Nat) (now : Int) (k : Nat) : cntD D c now k ≤ k := by
  unfold cntD
  exact Nat.le_trans (List.length_filter_le _ _) (by simp)
theorem many_is {S : List Nt} {D : List Int} {c : Nat} {now T : Int} (hi : NtInv 2 T S) (hd : DR (fS S) D) (ha : Ahead now c S) (hc : c < 2) (h0 : now = 0 → S = []) (hnow : 0 ≤ now) : cntD D c now 24 = ((takeS S (c : Int) now).map Nt.t).length := by
  by_cases hn : now = 0
  · subst hn
    rw [h0 rfl]
    show ((List.range 24).filter _).length = 0
    rw [List.length_eq_zero_iff, List.filter_eq_nil_iff]
    intro t _
    simp
  have hpos : 0 < now := by omega
  have hp : (((List.range 24).filter (fun t => decide (D.getD (c * 24 + t) 0 = now) && decide (0 < now))).map (fun t : Nat => (t : Int))).Perm ((takeS S (c : Int) now).map Nt.t) := by
    refine (List.perm_ext_iff_of_nodup ?_ (takeS_nodup hi)).2 (fun x => ?_)
    · have : ((List.range 24).filter (fun t => decide (D.getD (c * 24 + t) 0 = now) && decide (0 < now))).Nodup := List.nodup_range.sublist List.filter_sublist
      rw [List.Nodup, List.pairwise_map]
      exact this.imp (fun h e => h (by omega))
    · rw [List.mem_map, List.mem_map]
      constructor
      · rintro ⟨t, ht, rfl⟩
        obtain ⟨h1, h2⟩ := List.mem_filter.1 ht
        have ht24 : t < 24 := by simpa using h1
        have hv := hd.val c t hc ht24
        simp only [Bool.and_eq_true, decide_eq_true_eq] at h2
        rw [List.getD_eq_getElem?_getD, hv, Option.getD_some] at h2
        cases e : fS S ((c : Int), (t : Int)) with
        | none => rw [e] at h2; simp [valF] at h2; omega
        | some q =>
          obtain ⟨y, hy, hk, hq⟩ := fS_some e
          rw [e] at h2
          refine ⟨y, (takeS_mem hi).2 ⟨hy, ?_, ?_⟩, ?_⟩
          · exact congrArg Prod.fst hk
          · have := congrArg Prod.fst hq
            have h3 : q.1 = now := h2.1
            simp at this
            omega
          · exact congrArg Prod.snd hk
      · rintro ⟨y, hy, rfl⟩
        obtain ⟨h1, h2, h3⟩ := (takeS_mem hi).1 hy
        have hb := hi.bd y h1
        have hah := ha y h1
        refine ⟨y.t.toNat, List.mem_filter.2 ⟨by simp; omega, ?_⟩, by omega⟩
        have hv := hd.val c y.t.toNat hc (by omega)
        have e : fS S ((c : Int), ((y.t.toNat : Nat) : Int)) = some (y.d, y.n) := by
          have e2 := fS_mem hi.nodup h1
          rw [← e2]
          unfold Nt.key
          rw [h2, Int.toNat_of_nonneg hb.2.2.1]
        rw [e] at hv
        rw [List.getD_eq_getElem?_getD, hv, Option.getD_some]
        have e3 : valF (some (y.d, y.n)) = now := by
          have h5 := hah.1
          show y.d = now
          omega
        rw [e3]
        simp [hpos]
  have := hp.length_eq
  rw [List.length_map] at this
  exact this
theorem lenS_le {S : List Nt} {T : Int} (hi : NtInv 2 T S) (c : Int) : lenS S c ≤ 24 := by
  have hp : (((S.filter (fun x => decide (x.c = c))).map Nt.t)).Nodup := by
    have h1 : ((S.filter (fun x => decide (x.c = c))).map Nt.key).Nodup := ((List.filter_sublist (l := S)).map Nt.key).nodup hi.nodup
    rw [List.Nodup, List.pairwise_map] at h1 ⊢
    refine h1.imp_of_mem (fun {a b} ha hb hne e => hne ?_)
    obtain ⟨ha1, ha2⟩ := List.mem_filter.1 ha
    obtain ⟨hb1, hb2⟩ := List.mem_filter.1 hb
    have := hi.bd a ha1
    have := hi.bd b hb1
    simp at ha2 hb2
    unfold Nt.key
    rw [ha2, hb2, e]
  have := nodup_bound 24 _ hp (fun x hx => by
    obtain ⟨y, hy, rfl⟩ := List.mem_map.1 hx
    have := hi.bd y (List.mem_filter.1 hy).1
    omega)
  rw [List.length_map] at this
  exact this
end Go.Proofs.Ytbkjlohlfkokpaa
