/- The statements of chapter 12: examples (contract). -/
import Derived.Test.YtbkjlohlfkokpaaQueue3
set_option linter.unusedVariables false
set_option linter.unusedSimpArgs false
namespace Go.Proofs.Ytbkjlohlfkokpaa
open Go.RowKit Go.Maps

section
variable {w wx w' : World} {base q T : Nat} {Q : Nat → Prop} {policy : Int} {f : Int → Option Rk} {L : List (Int × Int)}
def addF (f : Int → Option Rk) (t l : Int) : Int → Option Rk := fun s => if s = t then some ⟨l, 0, false⟩ else f s
theorem q_add_new (H : IsQ w base q Q policy T f L) {t l : Int} (hm : mayB t l = true) (hT : T < 10000) (hin : t ∉ fsts L) {L' : List (Int × Int)} (hL : insP (t, Rk.key ⟨l, 0, false⟩ t) L = L') :
    Calls Try.prog 51 #[.pointer (some ⟨q, 0, none⟩), .int .i64 t, .int .i64 l] w fun e w' => e = .returned (.int .i64 0) ∧ QBehind w base q Q policy (T + 1) (addF f t l) L' w' := by
  have hl : l ≤ 9223372036854775807 := by
    have := hm
    unfold mayB at this
    have := of_decide_eq_true this
    omega
  refine (q_add H hl hm hT).mono ?_
  rintro e w' (⟨h, _⟩ | ⟨_, h1, h2⟩)
  · exact absurd h hin
  · rw [hL] at h2
    exact ⟨h1, h2⟩
theorem q_add_old (H : IsQ w base q Q policy T f L) {t l : Int} (hm : mayB t l = true) (hT : T < 10000) (hin : t ∈ fsts L) :
    Calls Try.prog 51 #[.pointer (some ⟨q, 0, none⟩), .int .i64 t, .int .i64 l] w fun e w' => e = .returned (.int .i64 4) ∧ QBehind w base q Q policy (T + 1) f L w' := by
  have hl : l ≤ 9223372036854775807 := by
    have := hm
    unfold mayB at this
    have := of_decide_eq_true this
    omega
  refine (q_add H hl hm hT).mono ?_
  rintro e w' (⟨_, h1, h2⟩ | ⟨h, _⟩)
  · exact ⟨h1, h2⟩
  · exact absurd hin h
end
set_option maxRecDepth 100000 in
set_option maxHeartbeats 1600000 in
/-- The chapter's examples. -/
theorem readyex_any {w : World} : Calls Try.prog 48 #[] w fun e w' => e = .returned (.bool true) ∧ Below w.heap.size w w' := by
  go_enter Try.func48, Try.ntmps48
  go_wp2_with fail
  refine (q_new 1 (.inl rfl)).mono ?_
  rintro e w1 ⟨q, Q0, rfl, H0, hb1⟩
  have H0' : QW w w1 q Q0 1 0 (fun _ => none) [] := ⟨hb1, H0⟩
  have HH0 := hid H0'
  clear H0 hb1 H0'
  go_wp2_with fail
  refine (q_new_no 3 ⟨by omega, by omega⟩).mono ?_
  rintro e w1' ⟨rfl, rfl⟩
  go_wp2_with fail
  refine (q_add_new HH0.out.q (t := 3) (l := 2) (by decide) (by omega) (by decide) (L' := [(3, 163)]) (by decide)).mono ?_
  rintro e w2 ⟨rfl, hB⟩
  obtain ⟨Q1, hH1, -⟩ := HH0.out.step hB
  have HH1 := hid hH1
  clear hB hH1
  go_wp2_with fail
  refine (q_add_new HH1.out.q (t := 1) (l := 2) (by decide) (by omega) (by decide) (L' := [(1, 161), (3, 163)]) (by decide)).mono ?_
  rintro e w3 ⟨rfl, hB⟩
  obtain ⟨Q2, hH2, -⟩ := HH1.out.step hB
  have HH2 := hid hH2
  clear hB hH2
  go_wp2_with fail
  refine (q_add_new HH2.out.q (t := 5) (l := 1) (by decide) (by omega) (by decide) (L' := [(5, 101), (1, 161), (3, 163)]) (by decide)).mono ?_
  rintro e w4 ⟨rfl, hB⟩
  obtain ⟨Q3, hH3, -⟩ := HH2.out.step hB
  have HH3 := hid hH3
  clear hB hH3
  go_wp2_with fail
  refine (q_all HH3.out.q).mono ?_
  rintro e w5 ⟨u, rfl, hu, hb5⟩
  have hu2 : w5.ownsRow w4.heap.size 3 1 u 3 (intCells [5, 1, 3]) := hu
  obtain ⟨g, cu, cur, rfl, _⟩ := own_shape hu2 (by decide)
  have HU := hid hu2
  have HH4 := hid (HH3.out.later hb5)
  have HNQ := hid (show ¬ Q3 g from fun e => by have h1 := (HH3.out.q.lt g e).2; have h2 := own_ge hu2 g rfl; omega)
  clear hu hu2 hb5
  go_wp2_with fail
  obtain ⟨f3, hf3⟩ : ∃ f3, addF (addF (addF (fun _ => none) 3 2) 1 2) 5 1 = f3 := ⟨_, rfl⟩
  have hf33 : f3 3 = some ⟨2, 0, false⟩ := by rw [← hf3]; rfl
  rw [hf3] at HH4
  have e5 : upE f3 3 = 0 := by unfold upE; rw [hf33]
  have e6 : upL f3 [(5, 101), (1, 161), (3, 163)] 3 (raiseR 1) = [(3, 67), (5, 101), (1, 161)] := by unfold upL; rw [hf33]; decide
  have e7 : upF f3 3 (raiseR 1) 3 = some ⟨2, 1, true⟩ := by unfold upF; rw [hf33]; rfl
  have hr := q_raise HH4.out.q (t := 3) (l := 1) (by omega) (by decide) (by omega)
  rw [e5, e6] at hr
  obtain ⟨f4, hf4⟩ : ∃ f4, upF f3 3 (raiseR 1) = f4 := ⟨_, rfl⟩
  rw [hf4] at hr e7
  have HR := hid hr
  have E7 := hid e7
  clear hr e5 e6 e7 hf4 hf33 hf3
  refine HR.out.mono ?_
  rintro e w6 ⟨rfl, hB⟩
  obtain ⟨Q5, hH5, hK5⟩ := HH4.out.step hB
  have HH5 := hid hH5
  obtain ⟨C, hC⟩ := own_blk HU.out
  have hK5' := hK5 g _ hC.1 HNQ.out
  have HU5 := hid hK5'.1
  have HN5 := hid hK5'.2
  clear hB hH5 hK5 hK5' HR
  go_wp2_with fail
  refine (q_first HH5.out.q).mono ?_
  rintro e w7 ⟨rfl, k7, hw7⟩
  have HH6 : Hid (QW w w7 q Q5 1 4 f4 [(3, 67), (5, 101), (1, 161)]) := by rw [hw7]; exact hid (HH5.out.later (below_drewN' (Below.refl _ _) k7))
  have HU6 : Hid (w7.heap[g]? = some (.cells C 3 (0, 0))) := by rw [hw7]; exact hid (blk_drewN HU5.out k7)
  rw [show (if ([((3 : Int), (67 : Int)), (5, 101), (1, 161)] : List (Int × Int)).isEmpty = true then (-1 : Int) else (headP [((3 : Int), (67 : Int)), (5, 101), (1, 161)]).1) = 3 from rfl]
  clear hw7
  have e5 : upE f4 3 = 0 := by unfold upE; rw [E7.out]
  have e6 : upL f4 [(3, 67), (5, 101), (1, 161)] 3 fallR = [(5, 101), (1, 161), (3, 163)] := by unfold upL; rw [E7.out]; decide
  have hr := q_fall HH6.out.q (t := 3) (by omega) (by omega)
  rw [e5, e6] at hr
  obtain ⟨f5, hf5⟩ : ∃ f5, upF f4 3 fallR = f5 := ⟨_, rfl⟩
  rw [hf5] at hr
  have HR := hid hr
  clear hr e5 e6 hf5
  go_wp2_with fail
  refine HR.out.mono ?_
  rintro e w8 ⟨rfl, hB⟩
  obtain ⟨Q7, hH7, hK7⟩ := HH6.out.step hB
  have HH7 := hid hH7
  have hK7' := hK7 g _ HU6.out HN5.out
  have q0 : C[0]? = some (.int .i64 5) := by rw [← blk_cell hC.1 0]; exact own_cell0 HU.out rfl
  have q1 : C[1]? = some (.int .i64 1) := by rw [← blk_cell hC.1 1]; exact own_cell0 HU.out rfl
  have q2 : C[2]? = some (.int .i64 3) := by rw [← blk_cell hC.1 2]; exact own_cell0 HU.out rfl
  have r0 : w8.cell? ⟨g, 0, none⟩ = some (.int .i64 5) := by rw [blk_cell hK7'.1 0]; exact q0
  have r1 : w8.cell? ⟨g, 1, none⟩ = some (.int .i64 1) := by rw [blk_cell hK7'.1 1]; exact q1
  have r2 : w8.cell? ⟨g, 2, none⟩ = some (.int .i64 3) := by rw [blk_cell hK7'.1 2]; exact q2
  clear hB hH7 hK7 hK7' q0 q1 q2 hC HR
  go_wp2_with fail
  refine (q_first HH7.out.q).mono ?_
  rintro e w9 ⟨rfl, k9, hw9⟩
  have HB9 : Hid (Below w.heap.size w w9) := by rw [hw9]; exact hid (below_drewN' HH7.out.below k9)
  rw [show (if ([((5 : Int), (101 : Int)), (1, 161), (3, 163)] : List (Int × Int)).isEmpty = true then (-1 : Int) else (headP [((5 : Int), (101 : Int)), (1, 161), (3, 163)]).1) = 5 from rfl]
  clear hw9
  go_wp2_with fail
  go_ret
  exact ⟨rfl, HB9.out⟩
end Go.Proofs.Ytbkjlohlfkokpaa
