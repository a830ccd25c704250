/- Joined: OwnPart. -/
import Derived.Test.YtmhochjpdedlgaaQ18
set_option linter.unusedVariables false
set_option linter.unusedSimpArgs false
/- A row of parts that a call owns: a part is stored. -/
set_option linter.unusedVariables false
set_option linter.unusedSimpArgs false
namespace Go.Proofs.Ytmhochjpdedlgaa
open Go.RowKit

section
variable {w : World} {base : Nat}
/-- Seven stores put a part into a row that is owned. -/
theorem own_part {l : List Pt} {g n cap : Nat} (H : w.ownsRow base 107 7 (.slice (some ⟨g, 0, none⟩) n cap) n (flat encPt l)) {i : Nat} {y : Pt} (hy : l[i]? = some y) (hn : n = l.length) (x : Pt) :
    (((((((w.setCell ⟨g, i * 7, none⟩ (.int .i64 x.p.core)).setCell ⟨g, i * 7 + 1, none⟩ (.int .i64 x.p.bud)).setCell ⟨g, i * 7 + 2, none⟩ (.int .i64 x.p.dl)).setCell ⟨g, i * 7 + 3, none⟩ (.int .i64 x.p.prio)).setCell ⟨g, i * 7 + 4, none⟩ (.bool x.p.tight)).setCell ⟨g, i * 7 + 5, none⟩ (.int .i64 x.task)).setCell ⟨g, i * 7 + 6, none⟩ (.int .i64 x.k)).ownsRow base 107 7 (.slice (some ⟨g, 0, none⟩) n cap) n (flat encPt (l.set i x)) := by
  have hi : i < l.length := (List.getElem?_eq_some_iff.1 hy).1
  have h0 := H
  have h1 := own_set h0 (i * 7) (.int .i64 x.p.core) (by omega)
  have e0 := flat_set encPt_len l i 0 y (⟨⟨x.p.core, y.p.bud, y.p.dl, y.p.prio, y.p.tight⟩, y.task, y.k⟩ : Pt) (.int .i64 x.p.core) hy (by omega) rfl
  rw [Nat.add_zero] at e0
  rw [e0] at h1
  have h2 := own_set h1 (i * 7 + 1) (.int .i64 x.p.bud) (by omega)
  have e1 := flat_set encPt_len (l.set i (⟨⟨x.p.core, y.p.bud, y.p.dl, y.p.prio, y.p.tight⟩, y.task, y.k⟩ : Pt)) i 1 (⟨⟨x.p.core, y.p.bud, y.p.dl, y.p.prio, y.p.tight⟩, y.task, y.k⟩ : Pt) (⟨⟨x.p.core, x.p.bud, y.p.dl, y.p.prio, y.p.tight⟩, y.task, y.k⟩ : Pt) (.int .i64 x.p.bud) (List.getElem?_set_self hi) (by omega) rfl
  rw [e1, List.set_set] at h2
  have h3 := own_set h2 (i * 7 + 2) (.int .i64 x.p.dl) (by omega)
  have e2 := flat_set encPt_len (l.set i (⟨⟨x.p.core, x.p.bud, y.p.dl, y.p.prio, y.p.tight⟩, y.task, y.k⟩ : Pt)) i 2 (⟨⟨x.p.core, x.p.bud, y.p.dl, y.p.prio, y.p.tight⟩, y.task, y.k⟩ : Pt) (⟨⟨x.p.core, x.p.bud, x.p.dl, y.p.prio, y.p.tight⟩, y.task, y.k⟩ : Pt) (.int .i64 x.p.dl) (List.getElem?_set_self hi) (by omega) rfl
  rw [e2, List.set_set] at h3
  have h4 := own_set h3 (i * 7 + 3) (.int .i64 x.p.prio) (by omega)
  have e3 := flat_set encPt_len (l.set i (⟨⟨x.p.core, x.p.bud, x.p.dl, y.p.prio, y.p.tight⟩, y.task, y.k⟩ : Pt)) i 3 (⟨⟨x.p.core, x.p.bud, x.p.dl, y.p.prio, y.p.tight⟩, y.task, y.k⟩ : Pt) (⟨⟨x.p.core, x.p.bud, x.p.dl, x.p.prio, y.p.tight⟩, y.task, y.k⟩ : Pt) (.int .i64 x.p.prio) (List.getElem?_set_self hi) (by omega) rfl
  rw [e3, List.set_set] at h4
  have h5 := own_set h4 (i * 7 + 4) (.bool x.p.tight) (by omega)
  have e4 := flat_set encPt_len (l.set i (⟨⟨x.p.core, x.p.bud, x.p.dl, x.p.prio, y.p.tight⟩, y.task, y.k⟩ : Pt)) i 4 (⟨⟨x.p.core, x.p.bud, x.p.dl, x.p.prio, y.p.tight⟩, y.task, y.k⟩ : Pt) (⟨⟨x.p.core, x.p.bud, x.p.dl, x.p.prio, x.p.tight⟩, y.task, y.k⟩ : Pt) (.bool x.p.tight) (List.getElem?_set_self hi) (by omega) rfl
  rw [e4, List.set_set] at h5
  have h6 := own_set h5 (i * 7 + 5) (.int .i64 x.task) (by omega)
  have e5 := flat_set encPt_len (l.set i (⟨⟨x.p.core, x.p.bud, x.p.dl, x.p.prio, x.p.tight⟩, y.task, y.k⟩ : Pt)) i 5 (⟨⟨x.p.core, x.p.bud, x.p.dl, x.p.prio, x.p.tight⟩, y.task, y.k⟩ : Pt) (⟨⟨x.p.core, x.p.bud, x.p.dl, x.p.prio, x.p.tight⟩, x.task, y.k⟩ : Pt) (.int .i64 x.task) (List.getElem?_set_self hi) (by omega) rfl
  rw [e5, List.set_set] at h6
  have h7 := own_set h6 (i * 7 + 6) (.int .i64 x.k) (by omega)
  have e6 := flat_set encPt_len (l.set i (⟨⟨x.p.core, x.p.bud, x.p.dl, x.p.prio, x.p.tight⟩, x.task, y.k⟩ : Pt)) i 6 (⟨⟨x.p.core, x.p.bud, x.p.dl, x.p.prio, x.p.tight⟩, x.task, y.k⟩ : Pt) x (.int .i64 x.k) (List.getElem?_set_self hi) (by omega) rfl
  rw [e6, List.set_set] at h7
  exact h7
end
end Go.Proofs.Ytmhochjpdedlgaa
