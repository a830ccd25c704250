/- Joined: Trace18. -/
import Derived.Test.YtmhochjpdedlgaaQ47
set_option linter.unusedVariables false
set_option linter.unusedSimpArgs false
/- Package trace: Check (contract): what it finds is what Fnd says. -/
set_option linter.unusedVariables false
set_option linter.unusedSimpArgs false
namespace Go.Proofs.Ytmhochjpdedlgaa
open Go.RowKit Go.Shelf Go.Maps

/-- The world within Check: the boxes of table, trace, result. -/
structure CkW (w wr : World) (CT CX : Array Value) : Prop where
  below : Below w.heap.size w wr
  b0 : wr.heap[w.heap.size]? = some (.cells CT 28 (0, 0))
  b1 : wr.heap[w.heap.size + 1]? = some (.cells CX 32 (0, 0))
  b2 : wr.heap[w.heap.size + 2]? = some (.cells #[.int .i64 0, .int .i64 0, .int .i64 0] 35 (0, 0))
def st3 (w : World) (b : Nat) (v0 v1 v2 : Value) : World := ((w.setCell ⟨b, 0, none⟩ v0).setCell ⟨b, 1, none⟩ v1).setCell ⟨b, 2, none⟩ v2
section
variable {w wr w' : World} {CT CX : Array Value}
theorem CkW.later (H : CkW w wr CT CX) (k : Below wr.heap.size wr w') : CkW w w' CT CX := ⟨below_then H.below k, (fr0 k).blk H.b0 (fun h => h), (fr0 k).blk H.b1 (fun h => h), (fr0 k).blk H.b2 (fun h => h)⟩
theorem CkW.fr {K : Nat} (H : CkW w wr CT CX) (k : Fr (One K) wr w') (hK : w.heap.size + 2 < K) : CkW w w' CT CX :=
  ⟨((Fr.of_below (S := NoB) H.below).trans k (fun x hx => .inr (by rw [show x = K from hx]; omega))).no, k.blk H.b0 (fun e => by have h1 : w.heap.size = K := e; omega), k.blk H.b1 (fun e => by have h1 : w.heap.size + 1 = K := e; omega), k.blk H.b2 (fun e => by have h1 : w.heap.size + 2 = K := e; omega)⟩
theorem CkW.start (w : World) (CT CX : Array Value) : CkW w (((w.alloc (.cells CT 28)).alloc (.cells CX 32)).alloc (.cells #[.int .i64 0, .int .i64 0, .int .i64 0] 35)) CT CX := by
  have h1 := blk_new (w.alloc (.cells CT 28)) (.cells CX 32)
  have h2 := blk_new ((w.alloc (.cells CT 28)).alloc (.cells CX 32)) (.cells #[.int .i64 0, .int .i64 0, .int .i64 0] 35)
  simp only [show ∀ (w : World) o, (w.alloc o).heap.size = w.heap.size + 1 from fun w o => by simp] at h1 h2
  exact ⟨below_new (below_new (below_new (Below.refl _ _) _) _) _, blk_old (blk_old (blk_new _ _) _) _, blk_old h1 _, h2⟩
/-- What is stored as the result. -/
theorem CkW.put (H : CkW w wr CT CX) (v0 v1 v2 : Value) : (st3 wr (w.heap.size + 2) v0 v1 v2).heap[w.heap.size + 2]? = some (.cells #[v0, v1, v2] 35 (0, 0)) ∧ Below w.heap.size w (st3 wr (w.heap.size + 2) v0 v1 v2) := by
  have h1 := blk_set (blk_set (blk_set H.b2 0 v0) 1 v1) 2 v2
  refine ⟨by unfold st3; simpa using h1, ?_⟩
  have h2 : Fr (One (w.heap.size + 2)) wr (st3 wr (w.heap.size + 2) v0 v1 v2) := (((Fr.refl _ _).one 0 v0).one 1 v1).one 2 v2
  exact ((Fr.of_below (S := NoB) H.below).trans h2 (fun x hx => .inr (by rw [show x = w.heap.size + 2 from hx]; omega))).no
end
section
variable {w : World}
set_option maxRecDepth 100000 in
set_option maxHeartbeats 12800000 in
theorem check_any (T : Tb) (X : Tr) (A0 : Option Addr) (n0 c0 : Nat) (A1 : Option Addr) (n1 c1 : Nat) (A2 : Option Addr) (n2 c2 : Nat) (A : Option Addr) (n cp : Nat) (B : Option Addr) (m cb : Nat)
    (h : IsTab w (.slice A0 n0 c0) (.slice A1 n1 c1) (.slice A2 n2 c2) T) (hx : IsTr w (.slice A n cp) (.slice B m cb) X) (hlen : n1 ≤ 4398046511104) (hn6 : n ≤ 1000000) (hm6 : m ≤ 1000000) (harr : ∀ y ∈ X.jobs, I64 y.arr) :
    Calls Try.prog 13 #[tabV T.sys (.slice A0 n0 c0) (.slice A1 n1 c1) (.slice A2 n2 c2), trV (.slice A n cp) (.slice B m cb)] w fun e w' => ∃ r t c : Int, e = .returned (.agg #[.int .i64 r, .int .i64 t, .int .i64 c]) ∧ Fnd T X r t c ∧ Below w.heap.size w w' := by
  have hn := hx.slots.len
  have hm := hx.jobs.len
  have HT := hid h
  have HX := hid hx
  have HN := hid hn
  have HM := hid hm
  have HARR := hid harr
  have HTR := hid (fun W (k : Below w.heap.size w W) => tright_any (w := W) T A0 n0 c0 A1 n1 c1 A2 n2 c2 (h.later k) hlen)
  have HS0 := hid (CkW.start w (tabC T.sys (.slice A0 n0 c0) (.slice A1 n1 c1) (.slice A2 n2 c2)) #[.slice A n cp, .slice B m cb])
  unfold tabV trV at *
  obtain ⟨CT, hCT⟩ : ∃ C, C = tabC T.sys (.slice A0 n0 c0) (.slice A1 n1 c1) (.slice A2 n2 c2) := ⟨_, rfl⟩
  unfold tabC at *
  have HCT := hid hCT
  have HWT := hid h
  clear h hx hn hm harr
  go_enter Try.func13, Try.ntmps13
  go_upto_region 1 with fail
  generalize ((w.alloc (.cells #[.int .i64 T.sys.cores, .int .i64 T.sys.policy, .int .i64 T.sys.prot, .int .i64 T.sys.rel, .int .i64 T.sys.sw, .int .i64 T.sys.fin, .int .i64 T.sys.lat, .int .i64 T.sys.resn, .slice A0 n0 c0, .slice A1 n1 c1, .slice A2 n2 c2] 28)).alloc (.cells #[.slice A n cp, .slice B m cb] 32)).alloc (.cells #[.int .i64 0, .int .i64 0, .int .i64 0] 35) = w1 at *
  rw [← hCT] at HS0
  have hC0 : ∀ k, w1.cell? ⟨w.heap.size, k, none⟩ = CT[k]? := fun k => blk_cell HS0.out.b0 k
  have t0 : w1.cell? ⟨w.heap.size, 0, none⟩ = some (.int .i64 T.sys.cores) := by rw [hC0, hCT]; rfl
  have t1 : w1.cell? ⟨w.heap.size, 1, none⟩ = some (.int .i64 T.sys.policy) := by rw [hC0, hCT]; rfl
  have t2 : w1.cell? ⟨w.heap.size, 2, none⟩ = some (.int .i64 T.sys.prot) := by rw [hC0, hCT]; rfl
  have t3 : w1.cell? ⟨w.heap.size, 3, none⟩ = some (.int .i64 T.sys.rel) := by rw [hC0, hCT]; rfl
  have t4 : w1.cell? ⟨w.heap.size, 4, none⟩ = some (.int .i64 T.sys.sw) := by rw [hC0, hCT]; rfl
  have t5 : w1.cell? ⟨w.heap.size, 5, none⟩ = some (.int .i64 T.sys.fin) := by rw [hC0, hCT]; rfl
  have t6 : w1.cell? ⟨w.heap.size, 6, none⟩ = some (.int .i64 T.sys.lat) := by rw [hC0, hCT]; rfl
  have t7 : w1.cell? ⟨w.heap.size, 7, none⟩ = some (.int .i64 T.sys.resn) := by rw [hC0, hCT]; rfl
  have t8 : w1.cell? ⟨w.heap.size, 8, none⟩ = some (.slice A0 n0 c0) := by rw [hC0, hCT]; rfl
  have t9 : w1.cell? ⟨w.heap.size, 9, none⟩ = some (.slice A1 n1 c1) := by rw [hC0, hCT]; rfl
  have t10 : w1.cell? ⟨w.heap.size, 10, none⟩ = some (.slice A2 n2 c2) := by rw [hC0, hCT]; rfl
  clear hC0 hCT
  go_wp2_with fail
  refine (HTR.out w1 HS0.out.below).mono ?_
  rintro e w2 ⟨rfl, hb2⟩
  have HS2 := hid (HS0.out.later hb2)
  obtain ⟨tb, htb⟩ : ∃ v, tabB T = v := ⟨_, rfl⟩
  rw [htb]
  have HTB := hid htb
  have HBA := hid hb2
  clear htb hb2
  cases tb
  case false =>
    clear t0 t1 t2 t3 t4 t5 t6 t7 t8 t9 t10
    obtain ⟨wz, hwz⟩ : ∃ wz, wz = st3 w2 (w.heap.size + 1 + 1) (.int .i64 1) (.int .i64 (-1)) (.int .i64 (-1)) := ⟨_, rfl⟩
    obtain ⟨hqz, hbz⟩ := HS2.out.put (.int .i64 1) (.int .i64 (-1)) (.int .i64 (-1))
    rw [show w.heap.size + 2 = w.heap.size + 1 + 1 from rfl, ← hwz] at hqz hbz
    unfold st3 at hwz
    have HWZ := hid hwz
    have HQZ := hid hqz
    have HBZ := hid hbz
    clear hwz hqz hbz
    have z0 : w2.cell? ⟨w.heap.size + 1 + 1, 0, none⟩ = some (.int .i64 0) := blk_cell HS2.out.b2 0
    have z1 : w2.cell? ⟨w.heap.size + 1 + 1, 1, none⟩ = some (.int .i64 0) := blk_cell HS2.out.b2 1
    have z2 : w2.cell? ⟨w.heap.size + 1 + 1, 2, none⟩ = some (.int .i64 0) := blk_cell HS2.out.b2 2
    have zf : ∀ k, w2.frozen? ⟨w.heap.size + 1 + 1, k, none⟩ = false := fun k => blk_free HS2.out.b2 k
    go_wp2_with fail
    rw [← HWZ.out]
    clear z0 z1 z2 zf
    have y0 : wz.cell? ⟨w.heap.size + 1 + 1, 0, none⟩ = some (.int .i64 1) := blk_cell HQZ.out 0
    have y1 : wz.cell? ⟨w.heap.size + 1 + 1, 1, none⟩ = some (.int .i64 (-1)) := blk_cell HQZ.out 1
    have y2 : wz.cell? ⟨w.heap.size + 1 + 1, 2, none⟩ = some (.int .i64 (-1)) := blk_cell HQZ.out 2
    exact bodyPost_ret (v := .agg #[.int .i64 1, .int .i64 (-1), .int .i64 (-1)]) (by simp [results, Try.results13, go_sem, y0, y1, y2]) rfl ⟨_, _, _, rfl, .table HTB.out, HBZ.out⟩
  case true =>
    obtain ⟨hrs, hle, hbu⟩ := tabB_pre HTB.out
    have hcor := hrs.cores
    obtain ⟨nc, hnc⟩ : ∃ nc : Nat, T.sys.cores = nc := ⟨T.sys.cores.toNat, by omega⟩
    have hnc8 : nc ≤ 8 := by omega
    have HNC := hid (show T.sys.cores.toNat = nc by omega)
    have HRS := hid hrs
    have HLE := hid hle
    have HBU := hid hbu
    have HTC := hid hnc
    rw [hnc] at t0
    replace t0 := (HBA.out.cell (p := ⟨w.heap.size, 0, none⟩) (World.block_lt_of_cell? _ _ t0)).trans t0
    replace t1 := (HBA.out.cell (p := ⟨w.heap.size, 1, none⟩) (World.block_lt_of_cell? _ _ t1)).trans t1
    replace t2 := (HBA.out.cell (p := ⟨w.heap.size, 2, none⟩) (World.block_lt_of_cell? _ _ t2)).trans t2
    replace t3 := (HBA.out.cell (p := ⟨w.heap.size, 3, none⟩) (World.block_lt_of_cell? _ _ t3)).trans t3
    replace t4 := (HBA.out.cell (p := ⟨w.heap.size, 4, none⟩) (World.block_lt_of_cell? _ _ t4)).trans t4
    replace t5 := (HBA.out.cell (p := ⟨w.heap.size, 5, none⟩) (World.block_lt_of_cell? _ _ t5)).trans t5
    replace t6 := (HBA.out.cell (p := ⟨w.heap.size, 6, none⟩) (World.block_lt_of_cell? _ _ t6)).trans t6
    replace t7 := (HBA.out.cell (p := ⟨w.heap.size, 7, none⟩) (World.block_lt_of_cell? _ _ t7)).trans t7
    replace t8 := (HBA.out.cell (p := ⟨w.heap.size, 8, none⟩) (World.block_lt_of_cell? _ _ t8)).trans t8
    replace t9 := (HBA.out.cell (p := ⟨w.heap.size, 9, none⟩) (World.block_lt_of_cell? _ _ t9)).trans t9
    replace t10 := (HBA.out.cell (p := ⟨w.heap.size, 10, none⟩) (World.block_lt_of_cell? _ _ t10)).trans t10
    have x0 : w2.cell? ⟨w.heap.size + 1, 0, none⟩ = some (.slice A n cp) := blk_cell HS2.out.b1 0
    have x1 : w2.cell? ⟨w.heap.size + 1, 1, none⟩ = some (.slice B m cb) := blk_cell HS2.out.b1 1
    clear hrs hcor hnc HBA HS0 hle hbu
    go_upto_region 4 with fail
    have hk3 := blk_new w2 (.cells #[.int .i64 (nc : Int), .int .i64 T.sys.policy, .int .i64 T.sys.prot, .int .i64 T.sys.rel, .int .i64 T.sys.sw, .int .i64 T.sys.fin, .int .i64 T.sys.lat, .int .i64 T.sys.resn, .slice A0 n0 c0, .slice A1 n1 c1, .slice A2 n2 c2, .slice A n cp, .slice B m cb, .map none] 83)
    have hb3 := below_new (Below.refl w2.heap.size w2) (.cells #[.int .i64 (nc : Int), .int .i64 T.sys.policy, .int .i64 T.sys.prot, .int .i64 T.sys.rel, .int .i64 T.sys.sw, .int .i64 T.sys.fin, .int .i64 T.sys.lat, .int .i64 T.sys.resn, .slice A0 n0 c0, .slice A1 n1 c1, .slice A2 n2 c2, .slice A n cp, .slice B m cb, .map none] 83)
    generalize w2.alloc (.cells #[.int .i64 (nc : Int), .int .i64 T.sys.policy, .int .i64 T.sys.prot, .int .i64 T.sys.rel, .int .i64 T.sys.sw, .int .i64 T.sys.fin, .int .i64 T.sys.lat, .int .i64 T.sys.resn, .slice A0 n0 c0, .slice A1 n1 c1, .slice A2 n2 c2, .slice A n cp, .slice B m cb, .map none] 83) = w3 at *
    obtain ⟨K, hK⟩ : ∃ K, w2.heap.size = K := ⟨_, rfl⟩
    have HK2 := hid (show w.heap.size + 2 < K from by have := blk_lt HS2.out.b2; omega)
    rw [hK] at hk3 ⊢
    have HK3 := hid (show w3.heap[K]? = some (.cells (lkC T.sys (.slice A0 n0 c0) (.slice A1 n1 c1) (.slice A2 n2 c2) (.slice A n cp) (.slice B m cb) (.map none)) 83 (0, 0)) from by unfold lkC; rw [HTC.out]; exact hk3)
    have HS3 := hid (HS2.out.later hb3)
    have x0 : w3.cell? ⟨w.heap.size + 1, 0, none⟩ = some (.slice A n cp) := blk_cell HS3.out.b1 0
    have HT0 := hid (show ∀ W, CkW w W CT #[.slice A n cp, .slice B m cb] → W.cell? ⟨w.heap.size, 0, none⟩ = some (.int .i64 (nc : Int)) from fun W h => by rw [blk_cell h.b0 0, HCT.out, ← HTC.out]; rfl)
    clear t0 t1 t2 t3 t4 t5 t6 t7 t8 t9 t10 hk3 hb3 hK HS2 x1
    have hnm : n ≤ 9223372036854775807 := by omega
    have HSX := hid HX.out.slots
    go_wp2_with fail
    clear x0
    go_loopw [25] (fun v wr => ∃ k : Nat, k ≤ n ∧ v = .int .i64 k ∧ Hid (∀ t' l', t' < k → X.slots[t']? = some l' → rowOk nc T.sys.tasks.length l') ∧ Hid (Below w3.heap.size w3 wr)) (fun v _ => n - (intOf v).toNat)
    case atStart => exact ⟨0, by omega, rfl, hid (fun t' l' h => by omega), hid (Below.refl _ _)⟩
    case round =>
      obtain ⟨k, hk, rfl, HP, HBR⟩ := hrel
      have HSR := hid (HS3.out.later HBR.out)
      by_cases hlt : k < n
      case pos =>
        obtain ⟨l, hl⟩ : ∃ l, X.slots[k]? = some l := ⟨_, List.getElem?_eq_getElem (by have := HN.out; omega)⟩
        obtain ⟨b, o, cs, hA, hbl, _, hcs, u, hr, hru⟩ := (HSX.out.later (RowR.stays slR.stays) HSR.out.below).at hl
        subst hA
        subst hr
        obtain ⟨A4, c4, hu4, hr4⟩ := hru.shape
        obtain ⟨n4, hn4⟩ : ∃ n4, l.length = n4 := ⟨_, rfl⟩
        rw [hn4] at hu4 hr4
        subst hu4
        have hn4m : n4 ≤ 9223372036854775807 := by unfold maxLen at hr4; omega
        have HN4 := hid hn4
        have HL := hid hl
        have HRU := hid hru
        have e0 : wr.cell? ⟨b, o + k, none⟩ = some (.slice A4 n4 c4) := by simpa using hcs 0 _ rfl
        have t0 : wr.cell? ⟨w.heap.size, 0, none⟩ = some (.int .i64 (nc : Int)) := HT0.out wr HSR.out
        obtain ⟨ws, hws⟩ : ∃ ws, ws = wr := ⟨_, rfl⟩
        subst hws
        clear hl hcs hru hbl hn4 hr4
        go_upto_region 8 with fail
        obtain ⟨M, hM⟩ : ∃ M : Nat, max n4 nc = M := ⟨_, rfl⟩
        rw [show max (n4 : Int) (nc : Int) = (M : Int) from by omega]
        have HMX := hid (fun c : Nat => (show c < M ↔ (c < nc ∨ c < n4) from by omega))
        clear hM e0 t0
        go_loopw [36] (fun v wr => ∃ c : Nat, c ≤ M ∧ v = .int .i64 c ∧ Hid (∀ c', c' < c → okC nc T.sys.tasks.length l c' = true) ∧ Hid (Below ws.heap.size ws wr)) (fun v _ => M - (intOf v).toNat)
        case atStart => exact ⟨0, by omega, rfl, hid (fun c' h => by omega), hid (Below.refl _ _)⟩
        case round =>
          obtain ⟨c, hc, rfl, HFC, HBI⟩ := hrel
          have HSI := hid (HSR.out.later HBI.out)
          have t0 : wr.cell? ⟨w.heap.size, 0, none⟩ = some (.int .i64 (nc : Int)) := HT0.out wr HSI.out
          have HRES := hid (show (c < nc ∨ c < n4) → okC nc T.sys.tasks.length l c = false → Fnd T X 2 k c from fun h1 h2 => .shape HTB.out (by rw [HNC.out]; exact .inr ⟨rfl, k, c, l, rfl, rfl, HL.out, (by rw [HN4.out]; exact h1), h2, HFC.out, HP.out⟩))
          by_cases hcm : c < M
          case neg =>
            have HFN := hid (show ∀ t' l', t' < k + 1 → X.slots[t']? = some l' → rowOk nc T.sys.tasks.length l' from fun t' l' h3 h4 => by
              by_cases e : t' = k
              · subst e
                rw [HL.out] at h4
                injection h4 with h4
                rw [← h4]
                intro c' hc'
                rw [HN4.out] at hc'
                have := (HMX.out c').2 hc'
                exact HFC.out c' (by omega)
              · exact HP.out t' l' (by omega) h4)
            have HBN := hid (below_then HBR.out HBI.out)
            go_wp2_with fail
            go_roundw
            case rel => exact ⟨k + 1, by omega, by go_num, HFN, HBN⟩
            case measure => simp [intOf]; omega
          case pos =>
            have HCM := hid ((HMX.out c).1 hcm)
            by_cases h2 : c < n4
            case neg =>
              have hge : (n4 : Int) ≤ (c : Int) := by omega
              have HFF := hid (HRES.out HCM.out (by unfold okC; rw [List.getElem?_eq_none (by rw [HN4.out]; omega)]; simp))
              clear t0
              obtain ⟨wz, hwz⟩ : ∃ wz, wz = st3 wr (w.heap.size + 1 + 1) (.int .i64 2) (.int .i64 (k : Int)) (.int .i64 (c : Int)) := ⟨_, rfl⟩
              obtain ⟨hqz, hbz⟩ := HSI.out.put (.int .i64 2) (.int .i64 (k : Int)) (.int .i64 (c : Int))
              rw [show w.heap.size + 2 = w.heap.size + 1 + 1 from rfl, ← hwz] at hqz hbz
              unfold st3 at hwz
              have HWZ := hid hwz
              have HQZ := hid hqz
              have HBZ := hid hbz
              clear hwz hqz hbz
              have z0 : wr.cell? ⟨w.heap.size + 1 + 1, 0, none⟩ = some (.int .i64 0) := blk_cell HSI.out.b2 0
              have z1 : wr.cell? ⟨w.heap.size + 1 + 1, 1, none⟩ = some (.int .i64 0) := blk_cell HSI.out.b2 1
              have z2 : wr.cell? ⟨w.heap.size + 1 + 1, 2, none⟩ = some (.int .i64 0) := blk_cell HSI.out.b2 2
              have zf : ∀ k, wr.frozen? ⟨w.heap.size + 1 + 1, k, none⟩ = false := fun k => blk_free HSI.out.b2 k
              go_wp2_with fail
              rw [← HWZ.out]
              clear z0 z1 z2 zf
              have y0 : wz.cell? ⟨w.heap.size + 1 + 1, 0, none⟩ = some (.int .i64 2) := blk_cell HQZ.out 0
              have y1 : wz.cell? ⟨w.heap.size + 1 + 1, 1, none⟩ = some (.int .i64 (k : Int)) := blk_cell HQZ.out 1
              have y2 : wz.cell? ⟨w.heap.size + 1 + 1, 2, none⟩ = some (.int .i64 (c : Int)) := blk_cell HQZ.out 2
              exact bodyPost_ret (v := .agg #[.int .i64 2, .int .i64 (k : Int), .int .i64 (c : Int)]) (by simp [results, Try.results13, go_sem, y0, y1, y2]) rfl ⟨_, _, _, rfl, HFF.out, HBZ.out⟩
            case pos =>
              by_cases h1 : c < nc
              case neg =>
                have HFF := hid (HRES.out HCM.out (by unfold okC; rw [decide_eq_false h1]; rfl))
                obtain ⟨wz, hwz⟩ : ∃ wz, wz = st3 wr (w.heap.size + 1 + 1) (.int .i64 2) (.int .i64 (k : Int)) (.int .i64 (c : Int)) := ⟨_, rfl⟩
                obtain ⟨hqz, hbz⟩ := HSI.out.put (.int .i64 2) (.int .i64 (k : Int)) (.int .i64 (c : Int))
                rw [show w.heap.size + 2 = w.heap.size + 1 + 1 from rfl, ← hwz] at hqz hbz
                unfold st3 at hwz
                have HWZ := hid hwz
                have HQZ := hid hqz
                have HBZ := hid hbz
                clear hwz hqz hbz
                have z0 : wr.cell? ⟨w.heap.size + 1 + 1, 0, none⟩ = some (.int .i64 0) := blk_cell HSI.out.b2 0
                have z1 : wr.cell? ⟨w.heap.size + 1 + 1, 1, none⟩ = some (.int .i64 0) := blk_cell HSI.out.b2 1
                have z2 : wr.cell? ⟨w.heap.size + 1 + 1, 2, none⟩ = some (.int .i64 0) := blk_cell HSI.out.b2 2
                have zf : ∀ k, wr.frozen? ⟨w.heap.size + 1 + 1, k, none⟩ = false := fun k => blk_free HSI.out.b2 k
                go_wp2_with fail
                rw [← HWZ.out]
                clear z0 z1 z2 zf
                have y0 : wz.cell? ⟨w.heap.size + 1 + 1, 0, none⟩ = some (.int .i64 2) := blk_cell HQZ.out 0
                have y1 : wz.cell? ⟨w.heap.size + 1 + 1, 1, none⟩ = some (.int .i64 (k : Int)) := blk_cell HQZ.out 1
                have y2 : wz.cell? ⟨w.heap.size + 1 + 1, 2, none⟩ = some (.int .i64 (c : Int)) := blk_cell HQZ.out 2
                exact bodyPost_ret (v := .agg #[.int .i64 2, .int .i64 (k : Int), .int .i64 (c : Int)]) (by simp [results, Try.results13, go_sem, y0, y1, y2]) rfl ⟨_, _, _, rfl, HFF.out, HBZ.out⟩
              case pos =>
                obtain ⟨s, hs⟩ : ∃ s, l[c]? = some s := ⟨_, List.getElem?_eq_getElem (by have := HN4.out; omega)⟩
                obtain ⟨b5, o5, cs5, hA5, hbl5, _, hc5, hr5⟩ := (HRU.out.later slR.stays HBI.out).at hs
                subst hA5
                have hr5' : cs5 = [.int .i64 s.kind, .int .i64 s.task, .int .i64 s.oth] := hr5
                subst hr5'
                obtain ⟨sb, hsb⟩ : ∃ v, shapeB T.sys.tasks.length s = v := ⟨_, rfl⟩
                have HOK := hid (show okC nc T.sys.tasks.length l c = sb from by unfold okC; rw [decide_eq_true h1, hs, ← hsb]; rfl)
                have HKW := hid ((fr0 (below_then HBR.out HBI.out)).blk HK3.out (fun h => h))
                have hn0 : n0 = T.sys.tasks.length := HWT.out.sys.tasks.len
                have HSH := hid (shape_any (w := wr) K n0 A0 c0 s (blk_cell HKW.out 8) (by have := HWT.out.sys.tasks.room; unfold maxLen at this; omega))
                rw [hn0, hsb] at HSH
                unfold slV at HSH
                obtain ⟨sk, st, so⟩ := s
                simp only at hc5 HSH
                have e0 : wr.cell? ⟨b5, o5 + c * 3, none⟩ = some (.int .i64 sk) := by simpa using hc5 0 _ rfl
                have e1 : wr.cell? ⟨b5, o5 + c * 3 + 1, none⟩ = some (.int .i64 st) := hc5 1 _ rfl
                have e2 : wr.cell? ⟨b5, o5 + c * 3 + 2, none⟩ = some (.int .i64 so) := hc5 2 _ rfl
                clear hs hc5 hr5 hbl5 hsb hn0
                go_wp2_with fail
                refine HSH.out.mono ?_
                rintro e w5 ⟨rfl, hb5⟩
                have HS5 := hid (HSI.out.later hb5)
                have HB5 := hid (below_then HBI.out hb5)
                clear hb5 e0 e1 e2 t0
                cases sb
                case false =>
                  have HFF := hid (HRES.out HCM.out HOK.out)
                  obtain ⟨wz, hwz⟩ : ∃ wz, wz = st3 w5 (w.heap.size + 1 + 1) (.int .i64 2) (.int .i64 (k : Int)) (.int .i64 (c : Int)) := ⟨_, rfl⟩
                  obtain ⟨hqz, hbz⟩ := HS5.out.put (.int .i64 2) (.int .i64 (k : Int)) (.int .i64 (c : Int))
                  rw [show w.heap.size + 2 = w.heap.size + 1 + 1 from rfl, ← hwz] at hqz hbz
                  unfold st3 at hwz
                  have HWZ := hid hwz
                  have HQZ := hid hqz
                  have HBZ := hid hbz
                  clear hwz hqz hbz
                  have z0 : w5.cell? ⟨w.heap.size + 1 + 1, 0, none⟩ = some (.int .i64 0) := blk_cell HS5.out.b2 0
                  have z1 : w5.cell? ⟨w.heap.size + 1 + 1, 1, none⟩ = some (.int .i64 0) := blk_cell HS5.out.b2 1
                  have z2 : w5.cell? ⟨w.heap.size + 1 + 1, 2, none⟩ = some (.int .i64 0) := blk_cell HS5.out.b2 2
                  have zf : ∀ k, w5.frozen? ⟨w.heap.size + 1 + 1, k, none⟩ = false := fun k => blk_free HS5.out.b2 k
                  go_wp2_with fail
                  rw [← HWZ.out]
                  clear z0 z1 z2 zf
                  have y0 : wz.cell? ⟨w.heap.size + 1 + 1, 0, none⟩ = some (.int .i64 2) := blk_cell HQZ.out 0
                  have y1 : wz.cell? ⟨w.heap.size + 1 + 1, 1, none⟩ = some (.int .i64 (k : Int)) := blk_cell HQZ.out 1
                  have y2 : wz.cell? ⟨w.heap.size + 1 + 1, 2, none⟩ = some (.int .i64 (c : Int)) := blk_cell HQZ.out 2
                  exact bodyPost_ret (v := .agg #[.int .i64 2, .int .i64 (k : Int), .int .i64 (c : Int)]) (by simp [results, Try.results13, go_sem, y0, y1, y2]) rfl ⟨_, _, _, rfl, HFF.out, HBZ.out⟩
                case true =>
                  have HFN := hid (show ∀ c', c' < c + 1 → okC nc T.sys.tasks.length l c' = true from fun c' h => by
                    by_cases e : c' = c
                    · rw [e]; exact HOK.out
                    · exact HFC.out c' (by omega))
                  go_wp2_with fail
                  go_roundw
                  case rel => exact ⟨c + 1, by omega, by go_num, HFN, HB5⟩
                  case measure => simp [intOf]; omega
      case neg =>
        obtain rfl : k = n := by omega
        have hshp : ∀ l ∈ X.slots, rowOk nc T.sys.tasks.length l := fun l hl => by
          obtain ⟨i, hi⟩ := List.mem_iff_getElem?.1 hl
          exact HP.out i l (by have := (List.getElem?_eq_some_iff.1 hi).1; have := HN.out; omega) hi
        have HPRE := hid (show Pre T X from ⟨HRS.out, HLE.out, HBU.out, by rw [HNC.out]; exact hshp⟩)
        have HSHP := hid (show Shp T.sys.cores.toNat T.sys.tasks.length X.slots 0 0 false from .inl ⟨rfl, rfl, rfl, HPRE.out.shp⟩)
        have HLK := hid (show LkR wr K 3 T X A0 n0 c0 A1 n1 c1 (.slice A2 n2 c2) A k cp B m cb from ⟨⟨_, (fr0 HBR.out).blk HK3.out (fun h => h)⟩, fun h => by omega, HX.out.later HSR.out.below, HWT.out.sys.tasks.later tskR.stays HSR.out.below, HWT.out.ents.later entR.stays HSR.out.below, hn6, hm6, HARR.out⟩)
        clear hshp
        obtain ⟨ws, hws⟩ : ∃ ws, ws = wr := ⟨_, rfl⟩
        subst hws
        go_wp2_with fail
        go_loopw [9] (fun v wr => ∃ r : Nat, 3 ≤ r ∧ r ≤ 8 ∧ v = .int .i64 r ∧ Hid (∀ r', 3 ≤ r' → r' < r → RuleOk T X r') ∧ Hid (CkW w wr CT #[.slice A k cp, .slice B m cb]) ∧ Hid (LkR wr K r T X A0 n0 c0 A1 n1 c1 (.slice A2 n2 c2) A k cp B m cb)) (fun v _ => 8 - (intOf v).toNat)
        case atStart => exact ⟨3, by omega, by omega, rfl, hid (fun r' h1 h2 => by omega), HSR, HLK⟩
        case round =>
          obtain ⟨r, h3, h8, rfl, HOKR, HSQ, HLQ⟩ := hrel
          by_cases hr8 : r = 8
          case pos =>
            have hr8' : ¬ (r : Int) ≤ 7 := by omega
            have HFF := hid (show Fnd T X 0 (-1) (-1) from .none HTB.out HSHP.out (fun r' h1 h2 => HOKR.out r' h1 (by omega)))
            clear hr8
            obtain ⟨wz, hwz⟩ : ∃ wz, wz = st3 wr (w.heap.size + 1 + 1) (.int .i64 0) (.int .i64 (-1)) (.int .i64 (-1)) := ⟨_, rfl⟩
            obtain ⟨hqz, hbz⟩ := HSQ.out.put (.int .i64 0) (.int .i64 (-1)) (.int .i64 (-1))
            rw [show w.heap.size + 2 = w.heap.size + 1 + 1 from rfl, ← hwz] at hqz hbz
            unfold st3 at hwz
            have HWZ := hid hwz
            have HQZ := hid hqz
            have HBZ := hid hbz
            clear hwz hqz hbz
            have z0 : wr.cell? ⟨w.heap.size + 1 + 1, 0, none⟩ = some (.int .i64 0) := blk_cell HSQ.out.b2 0
            have z1 : wr.cell? ⟨w.heap.size + 1 + 1, 1, none⟩ = some (.int .i64 0) := blk_cell HSQ.out.b2 1
            have z2 : wr.cell? ⟨w.heap.size + 1 + 1, 2, none⟩ = some (.int .i64 0) := blk_cell HSQ.out.b2 2
            have zf : ∀ k, wr.frozen? ⟨w.heap.size + 1 + 1, k, none⟩ = false := fun k => blk_free HSQ.out.b2 k
            go_wp2_with fail
            rw [← HWZ.out]
            clear z0 z1 z2 zf
            have y0 : wz.cell? ⟨w.heap.size + 1 + 1, 0, none⟩ = some (.int .i64 0) := blk_cell HQZ.out 0
            have y1 : wz.cell? ⟨w.heap.size + 1 + 1, 1, none⟩ = some (.int .i64 (-1)) := blk_cell HQZ.out 1
            have y2 : wz.cell? ⟨w.heap.size + 1 + 1, 2, none⟩ = some (.int .i64 (-1)) := blk_cell HQZ.out 2
            exact bodyPost_ret (v := .agg #[.int .i64 0, .int .i64 (-1), .int .i64 (-1)]) (by simp [results, Try.results13, go_sem, y0, y1, y2]) rfl ⟨_, _, _, rfl, HFF.out, HBZ.out⟩
          case neg =>
            have hr7 : r ≤ 7 := by omega
            clear hr8 h8
            go_upto_if 69 with fail
            go_cut [9] (fun v wx => v = .int .i64 r ∧ Hid (CkW w wx CT #[.slice A k cp, .slice B m cb]) ∧ Hid (LkR wx K (r + 1) T X A0 n0 c0 A1 n1 c1 (.slice A2 n2 c2) A k cp B m cb))
            case first =>
              by_cases r4 : r = 4
              case pos =>
                have hb4 : ((r : Int) == 4) = true := beq_iff_eq.2 (by omega)
                obtain ⟨uv, hkb⟩ := HLQ.out.blk
                have HCN := hid (count_any (w := wr) w K T.sys (.slice A0 n0 c0) (.slice A1 n1 c1) (.slice A2 n2 c2) uv X A k cp B m cb hkb HSQ.out.below (by have := HK2.out; omega) HX.out hn6 hm6)
                have HR4 := hid r4
                clear r4 hkb
                go_wp2_with fail
                refine HCN.out.mono ?_
                rintro e w5 ⟨rfl, hk5, hm5, hf5⟩
                have HS5 := hid (HSQ.out.fr hf5 HK2.out)
                have HL5 := hid (show LkR w5 K (r + 1) T X A0 n0 c0 A1 n1 c1 (.slice A2 n2 c2) A k cp B m cb from ⟨⟨_, hk5⟩, fun _ => ⟨wr.heap.size, hk5, hm5, HX.out.later HS5.out.below, HWT.out.sys.tasks.later tskR.stays HS5.out.below, HWT.out.ents.later entR.stays HS5.out.below, hn6, hm6⟩, HX.out.later HS5.out.below, HWT.out.sys.tasks.later tskR.stays HS5.out.below, HWT.out.ents.later entR.stays HS5.out.below, hn6, hm6, HARR.out⟩)
                clear hk5 hm5 hf5
                go_wp2_with fail
                go_meet
                exact ⟨rfl, HS5, HL5⟩
              case neg =>
                have hb4 : ((r : Int) == 4) = false := beq_eq_false_iff_ne.2 (by omega)
                have HL5 := hid (show LkR wr K (r + 1) T X A0 n0 c0 A1 n1 c1 (.slice A2 n2 c2) A k cp B m cb from ⟨HLQ.out.blk, fun h => HLQ.out.map (by omega), HLQ.out.tr, HLQ.out.ts, HLQ.out.es, hn6, hm6, HARR.out⟩)
                clear r4
                go_wp2_with fail
                go_meet
                exact ⟨rfl, HSQ, HL5⟩
            obtain ⟨rfl, HS6, HL6⟩ := hcut
            have x0 : wc.cell? ⟨w.heap.size + 1, 0, none⟩ = some (.slice A k cp) := blk_cell HS6.out.b1 0
            have x0d : wc.drew.cell? ⟨w.heap.size + 1, 0, none⟩ = some (.slice A k cp) := x0
            have t0 : wc.cell? ⟨w.heap.size, 0, none⟩ = some (.int .i64 (nc : Int)) := HT0.out wc HS6.out
            have t0d : wc.drew.cell? ⟨w.heap.size, 0, none⟩ = some (.int .i64 (nc : Int)) := t0
            go_upto_region 19 with fail
            go_region
            have HS7 := hid (HS6.out.later (Below.refl wc.heap.size wc).drew)
            have HL7 := hid (HL6.out.later (Below.refl wc.heap.size wc).drew)
            generalize wc.drew = w7 at *
            clear x0 x0d t0 t0d HS6 HL6 HSQ HLQ
            have x1 : w7.cell? ⟨w.heap.size + 1, 1, none⟩ = some (.slice B m cb) := blk_cell HS7.out.b1 1
            go_upto_region 20 with fail
            go_cut [83] (fun v wx => ∃ gb : Bool, v = .bool gb ∧ Hid (gb = decide (r = 3 ∨ r = 5)) ∧ w7 = wx)
            case first =>
              by_cases r3 : r = 3
              case pos =>
                have hb3 : ((r : Int) == 3) = true := beq_iff_eq.2 (by omega)
                have HG := hid (show true = decide (r = 3 ∨ r = 5) from (decide_eq_true (.inl r3)).symm)
                clear r3
                go_wp2_with fail
                go_meet
                exact ⟨_, rfl, HG, rfl⟩
              case neg =>
                have hb3 : ((r : Int) == 3) = false := beq_eq_false_iff_ne.2 (by omega)
                by_cases r5 : r = 5
                case pos =>
                  have hb5 : ((r : Int) == 5) = true := beq_iff_eq.2 (by omega)
                  have HG := hid (show true = decide (r = 3 ∨ r = 5) from (decide_eq_true (.inr r5)).symm)
                  clear r5
                  go_wp2_with fail
                  go_meet
                  exact ⟨_, rfl, HG, rfl⟩
                case neg =>
                  have hb5 : ((r : Int) == 5) = false := beq_eq_false_iff_ne.2 (by omega)
                  have HG := hid (show false = decide (r = 3 ∨ r = 5) from (decide_eq_false (fun h => h.elim r3 r5)).symm)
                  go_wp2_with fail
                  go_meet
                  exact ⟨_, rfl, HG, rfl⟩
            obtain ⟨ga, rfl, HGA, rfl⟩ := hcut
            go_upto_if 83 with fail
            go_cut [10] (fun v wx => ∃ N : Nat, v = .int .i64 N ∧ N ≤ 1000000 ∧ Hid (ruleN X r = N) ∧ w7 = wx)
            case first =>
              cases ga
              case true =>
                have HNN := hid (show ruleN X r = 1 from if_pos (of_decide_eq_true HGA.out.symm))
                go_wp2_with fail
                go_meet
                exact ⟨1, rfl, by omega, HNN, rfl⟩
              case false =>
                have HNN := hid (show ruleN X r = k from (if_neg (of_decide_eq_false HGA.out.symm)).trans HN.out.symm)
                go_wp2_with fail
                go_meet
                exact ⟨k, rfl, by omega, HNN, rfl⟩
            obtain ⟨N, rfl, hN6, HNR, rfl⟩ := hcut
            go_upto_region 22 with fail
            go_cut [89] (fun v wx => ∃ gb : Bool, v = .bool gb ∧ Hid (gb = !decide (r = 4 ∨ r = 6)) ∧ w7 = wx)
            case first =>
              by_cases r3 : r = 4
              case pos =>
                have hb3 : ((r : Int) != 4) = false := by rw [r3]; rfl
                have HG := hid (show false = !decide (r = 4 ∨ r = 6) from by rw [decide_eq_true (.inl r3)]; rfl)
                clear r3
                go_wp2_with fail
                go_meet
                exact ⟨_, rfl, HG, rfl⟩
              case neg =>
                have hb3 : ((r : Int) != 4) = true := by simp; omega
                by_cases r5 : r = 6
                case pos =>
                  have hb5 : ((r : Int) != 6) = false := by rw [r5]; rfl
                  have HG := hid (show false = !decide (r = 4 ∨ r = 6) from by rw [decide_eq_true (.inr r5)]; rfl)
                  clear r5
                  go_wp2_with fail
                  go_meet
                  exact ⟨_, rfl, HG, rfl⟩
                case neg =>
                  have hb5 : ((r : Int) != 6) = true := by simp; omega
                  have HG := hid (show true = !decide (r = 4 ∨ r = 6) from by rw [decide_eq_false (fun h => h.elim r3 r5)]; rfl)
                  go_wp2_with fail
                  go_meet
                  exact ⟨_, rfl, HG, rfl⟩
            obtain ⟨ge, rfl, HGE, rfl⟩ := hcut
            go_upto_if 89 with fail
            go_cut [11] (fun v wx => ∃ M : Nat, v = .int .i64 M ∧ M ≤ 1000000 ∧ Hid (ruleM T.sys.cores.toNat X r = M) ∧ w7 = wx)
            case first =>
              cases ge
              case true =>
                have HMM := hid (show ruleM T.sys.cores.toNat X r = m from (if_neg (fun h => by have h1 := HGE.out; rw [decide_eq_true h] at h1; cases h1)).trans HM.out.symm)
                go_wp2_with fail
                go_meet
                exact ⟨m, rfl, by omega, HMM, rfl⟩
              case false =>
                have HMM := hid (show ruleM T.sys.cores.toNat X r = nc from (if_pos (by have h1 := HGE.out; cases h2 : decide (r = 4 ∨ r = 6) with | true => exact of_decide_eq_true h2 | false => rw [h2] at h1; cases h1)).trans HNC.out)
                go_wp2_with fail
                go_meet
                exact ⟨nc, rfl, by omega, HMM, rfl⟩
            obtain ⟨M, rfl, hM6, HMR, rfl⟩ := hcut
            clear x1 HGE
            have HRB := hid (show ∀ (t c : Nat), Fst2 (ruleB T X r) N M t c → ∀ tk co : Int, (if r = 3 ∨ r = 5 then tk = (c : Int) ∧ co = 0 else tk = (t : Int) ∧ co = (c : Int)) → Fnd T X r tk co from fun t c hf tk co hif => .rule HTB.out HSHP.out h3 hr7 HOKR.out ⟨t, c, by rw [HNR.out, HMR.out]; exact hf, hif⟩)
            go_wp2_with fail
            go_loopw [94] (fun v wr => ∃ t : Nat, t ≤ N ∧ v = .int .i64 t ∧ Hid (∀ t' c', t' < t → c' < M → ruleB T X r t' c' = true) ∧ Hid (Below w7.heap.size w7 wr)) (fun v _ => N - (intOf v).toNat)
            case atStart => exact ⟨0, by omega, rfl, hid (fun t' c' h => by omega), hid (Below.refl _ _)⟩
            case round =>
              obtain ⟨t, htN, rfl, HPT, HBT⟩ := hrel
              by_cases htl : t < N
              case neg =>
                obtain rfl : t = N := by omega
                have HOKN := hid (show ∀ r', 3 ≤ r' → r' < r + 1 → RuleOk T X r' from fun r' h1 h2 => by
                  by_cases e : r' = r
                  · subst e
                    intro t' c' ht' hc'
                    rw [HNR.out] at ht'
                    rw [HMR.out] at hc'
                    exact HPT.out t' c' ht' hc'
                  · exact HOKR.out r' h1 (by omega))
                have HSN := hid (HS7.out.later HBT.out)
                have HLN := hid (HL7.out.later HBT.out)
                go_wp2_with fail
                go_roundw
                case rel => exact ⟨r + 1, by omega, by omega, by go_num, HOKN, HSN, HLN⟩
                case measure => simp [intOf]; omega
              case pos =>
                obtain ⟨wt, hwt⟩ : ∃ wt, wt = wr := ⟨_, rfl⟩
                subst hwt
                go_wp2_with fail
                go_loopw [98] (fun v wr => ∃ c : Nat, c ≤ M ∧ v = .int .i64 c ∧ Hid (∀ c', c' < c → ruleB T X r t c' = true) ∧ Hid (Below wt.heap.size wt wr)) (fun v _ => M - (intOf v).toNat)
                case atStart => exact ⟨0, by omega, rfl, hid (fun c' h => by omega), hid (Below.refl _ _)⟩
                case round =>
                  obtain ⟨c, hcM, rfl, HPC, HBC⟩ := hrel
                  by_cases hcl : c < M
                  case neg =>
                    obtain rfl : c = M := by omega
                    have HPN := hid (show ∀ t' c', t' < t + 1 → c' < c → ruleB T X r t' c' = true from fun t' c' h1 h2 => by
                      by_cases e : t' = t
                      · rw [e]; exact HPC.out c' h2
                      · exact HPT.out t' c' (by omega) h2)
                    have HBN := hid (below_then HBT.out HBC.out)
                    go_wp2_with fail
                    go_roundw
                    case rel => exact ⟨t + 1, by omega, by go_num, HPN, HBN⟩
                    case measure => simp [intOf]; omega
                  case pos =>
                    have HBX := hid (below_then HBT.out HBC.out)
                    have HHO := hid (holds_any (w := wr) K r T X A0 n0 c0 A1 n1 c1 (.slice A2 n2 c2) A k cp B m cb t c ⟨(HL7.out.later HBX.out).blk, fun h => (HL7.out.later HBX.out).map (by omega), (HL7.out.later HBX.out).tr, (HL7.out.later HBX.out).ts, (HL7.out.later HBX.out).es, hn6, hm6, HARR.out⟩ HPRE.out h3 hr7 (by rw [HNR.out]; exact htl) (by rw [HMR.out]; exact hcl) HOKR.out HPC.out)
                    obtain ⟨rb, hrb⟩ : ∃ v, ruleB T X r t c = v := ⟨_, rfl⟩
                    have HRV := hid hrb
                    rw [hrb] at HHO
                    clear hrb
                    go_wp2_with fail
                    refine HHO.out.mono ?_
                    rintro e w8 ⟨rfl, hb8⟩
                    have HB8 := hid (below_then HBC.out hb8)
                    have HS8 := hid (HS7.out.later (below_then HBX.out hb8))
                    clear hb8
                    cases rb
                    case true =>
                      have HPN := hid (show ∀ c', c' < c + 1 → ruleB T X r t c' = true from fun c' h => by
                        by_cases e : c' = c
                        · rw [e]; exact HRV.out
                        · exact HPC.out c' (by omega))
                      go_wp2_with fail
                      go_roundw
                      case rel => exact ⟨c + 1, by omega, by go_num, HPN, HB8⟩
                      case measure => simp [intOf]; omega
                    case false =>
                      have HFS := hid (show Fst2 (ruleB T X r) N M t c from ⟨htl, hcl, HRV.out, HPC.out, HPT.out⟩)
                      by_cases r35 : r = 3 ∨ r = 5
                      case pos =>
                        have HFF := hid (HRB.out t c HFS.out (c : Int) 0 (by rw [if_pos r35]; exact ⟨rfl, rfl⟩))
                        rcases r35 with r3 | r5
                        · have hb3 : ((r : Int) == 3) = true := beq_iff_eq.2 (by omega)
                          clear r3
                          obtain ⟨wz, hwz⟩ : ∃ wz, wz = st3 w8 (w.heap.size + 1 + 1) (.int .i64 (r : Int)) (.int .i64 (c : Int)) (.int .i64 0) := ⟨_, rfl⟩
                          obtain ⟨hqz, hbz⟩ := HS8.out.put (.int .i64 (r : Int)) (.int .i64 (c : Int)) (.int .i64 0)
                          rw [show w.heap.size + 2 = w.heap.size + 1 + 1 from rfl, ← hwz] at hqz hbz
                          unfold st3 at hwz
                          have HWZ := hid hwz
                          have HQZ := hid hqz
                          have HBZ := hid hbz
                          clear hwz hqz hbz
                          have z0 : w8.cell? ⟨w.heap.size + 1 + 1, 0, none⟩ = some (.int .i64 0) := blk_cell HS8.out.b2 0
                          have z1 : w8.cell? ⟨w.heap.size + 1 + 1, 1, none⟩ = some (.int .i64 0) := blk_cell HS8.out.b2 1
                          have z2 : w8.cell? ⟨w.heap.size + 1 + 1, 2, none⟩ = some (.int .i64 0) := blk_cell HS8.out.b2 2
                          have zf : ∀ k, w8.frozen? ⟨w.heap.size + 1 + 1, k, none⟩ = false := fun k => blk_free HS8.out.b2 k
                          go_wp2_with fail
                          rw [← HWZ.out]
                          clear z0 z1 z2 zf
                          have y0 : wz.cell? ⟨w.heap.size + 1 + 1, 0, none⟩ = some (.int .i64 (r : Int)) := blk_cell HQZ.out 0
                          have y1 : wz.cell? ⟨w.heap.size + 1 + 1, 1, none⟩ = some (.int .i64 (c : Int)) := blk_cell HQZ.out 1
                          have y2 : wz.cell? ⟨w.heap.size + 1 + 1, 2, none⟩ = some (.int .i64 0) := blk_cell HQZ.out 2
                          exact bodyPost_ret (v := .agg #[.int .i64 (r : Int), .int .i64 (c : Int), .int .i64 0]) (by simp [results, Try.results13, go_sem, y0, y1, y2]) rfl ⟨_, _, _, rfl, HFF.out, HBZ.out⟩
                        · have hb3 : ((r : Int) == 3) = false := beq_eq_false_iff_ne.2 (by omega)
                          have hb5 : ((r : Int) == 5) = true := beq_iff_eq.2 (by omega)
                          clear r5
                          obtain ⟨wz, hwz⟩ : ∃ wz, wz = st3 w8 (w.heap.size + 1 + 1) (.int .i64 (r : Int)) (.int .i64 (c : Int)) (.int .i64 0) := ⟨_, rfl⟩
                          obtain ⟨hqz, hbz⟩ := HS8.out.put (.int .i64 (r : Int)) (.int .i64 (c : Int)) (.int .i64 0)
                          rw [show w.heap.size + 2 = w.heap.size + 1 + 1 from rfl, ← hwz] at hqz hbz
                          unfold st3 at hwz
                          have HWZ := hid hwz
                          have HQZ := hid hqz
                          have HBZ := hid hbz
                          clear hwz hqz hbz
                          have z0 : w8.cell? ⟨w.heap.size + 1 + 1, 0, none⟩ = some (.int .i64 0) := blk_cell HS8.out.b2 0
                          have z1 : w8.cell? ⟨w.heap.size + 1 + 1, 1, none⟩ = some (.int .i64 0) := blk_cell HS8.out.b2 1
                          have z2 : w8.cell? ⟨w.heap.size + 1 + 1, 2, none⟩ = some (.int .i64 0) := blk_cell HS8.out.b2 2
                          have zf : ∀ k, w8.frozen? ⟨w.heap.size + 1 + 1, k, none⟩ = false := fun k => blk_free HS8.out.b2 k
                          go_wp2_with fail
                          rw [← HWZ.out]
                          clear z0 z1 z2 zf
                          have y0 : wz.cell? ⟨w.heap.size + 1 + 1, 0, none⟩ = some (.int .i64 (r : Int)) := blk_cell HQZ.out 0
                          have y1 : wz.cell? ⟨w.heap.size + 1 + 1, 1, none⟩ = some (.int .i64 (c : Int)) := blk_cell HQZ.out 1
                          have y2 : wz.cell? ⟨w.heap.size + 1 + 1, 2, none⟩ = some (.int .i64 0) := blk_cell HQZ.out 2
                          exact bodyPost_ret (v := .agg #[.int .i64 (r : Int), .int .i64 (c : Int), .int .i64 0]) (by simp [results, Try.results13, go_sem, y0, y1, y2]) rfl ⟨_, _, _, rfl, HFF.out, HBZ.out⟩
                      case neg =>
                        have HFF := hid (HRB.out t c HFS.out (t : Int) (c : Int) (by rw [if_neg r35]; exact ⟨rfl, rfl⟩))
                        have hb3 : ((r : Int) == 3) = false := beq_eq_false_iff_ne.2 (by omega)
                        have hb5 : ((r : Int) == 5) = false := beq_eq_false_iff_ne.2 (by omega)
                        clear r35
                        obtain ⟨wz, hwz⟩ : ∃ wz, wz = st3 w8 (w.heap.size + 1 + 1) (.int .i64 (r : Int)) (.int .i64 (t : Int)) (.int .i64 (c : Int)) := ⟨_, rfl⟩
                        obtain ⟨hqz, hbz⟩ := HS8.out.put (.int .i64 (r : Int)) (.int .i64 (t : Int)) (.int .i64 (c : Int))
                        rw [show w.heap.size + 2 = w.heap.size + 1 + 1 from rfl, ← hwz] at hqz hbz
                        unfold st3 at hwz
                        have HWZ := hid hwz
                        have HQZ := hid hqz
                        have HBZ := hid hbz
                        clear hwz hqz hbz
                        have z0 : w8.cell? ⟨w.heap.size + 1 + 1, 0, none⟩ = some (.int .i64 0) := blk_cell HS8.out.b2 0
                        have z1 : w8.cell? ⟨w.heap.size + 1 + 1, 1, none⟩ = some (.int .i64 0) := blk_cell HS8.out.b2 1
                        have z2 : w8.cell? ⟨w.heap.size + 1 + 1, 2, none⟩ = some (.int .i64 0) := blk_cell HS8.out.b2 2
                        have zf : ∀ k, w8.frozen? ⟨w.heap.size + 1 + 1, k, none⟩ = false := fun k => blk_free HS8.out.b2 k
                        go_wp2_with fail
                        rw [← HWZ.out]
                        clear z0 z1 z2 zf
                        have y0 : wz.cell? ⟨w.heap.size + 1 + 1, 0, none⟩ = some (.int .i64 (r : Int)) := blk_cell HQZ.out 0
                        have y1 : wz.cell? ⟨w.heap.size + 1 + 1, 1, none⟩ = some (.int .i64 (t : Int)) := blk_cell HQZ.out 1
                        have y2 : wz.cell? ⟨w.heap.size + 1 + 1, 2, none⟩ = some (.int .i64 (c : Int)) := blk_cell HQZ.out 2
                        exact bodyPost_ret (v := .agg #[.int .i64 (r : Int), .int .i64 (t : Int), .int .i64 (c : Int)]) (by simp [results, Try.results13, go_sem, y0, y1, y2]) rfl ⟨_, _, _, rfl, HFF.out, HBZ.out⟩
end
end Go.Proofs.Ytmhochjpdedlgaa
