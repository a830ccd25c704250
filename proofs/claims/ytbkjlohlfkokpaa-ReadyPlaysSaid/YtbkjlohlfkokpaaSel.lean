/- The plain law of the document's queue: who takes the least by key again and again gives the list in the order of its keys. -/
import Derived.Test.YtbkjlohlfkokpaaRef12e
set_option linter.unusedVariables false
set_option linter.unusedSimpArgs false
namespace Go.Proofs.Ytbkjlohlfkokpaa
open Go.RowKit

def keyO (p : Od) : Int := p.r.key p.t
def prO (p : Od) : Int × Int := (p.t, keyO p)
inductive Sel : List Od → List Int → Prop
  | nil : Sel [] []
  | cons {M : List Od} {b : Nat} {q : Od} {ts : List Int} : M[b]? = some q → (∀ p ∈ M, keyO q ≤ keyO p) → Sel (M.eraseIdx b) ts → Sel M (q.t :: ts)
theorem perm_erase {α : Type} : ∀ {M : List α} {b : Nat} {q : α}, M[b]? = some q → M.Perm (q :: M.eraseIdx b)
  | [], b, q, h => by simp at h
  | a :: M, 0, q, h => by
    simp at h
    subst h
    exact List.Perm.refl _
  | a :: M, b + 1, q, h => by
    have ih := perm_erase (show M[b]? = some q by simpa using h)
    rw [List.eraseIdx_cons_succ]
    exact (ih.cons a).trans (List.Perm.swap q a _)
theorem sel_is {M : List Od} {ts : List Int} (h : Sel M ts) : ∀ {S : List (Int × Int)}, S.Pairwise (fun p q => p.2 ≤ q.2) → S.Perm (M.map prO) → (∀ p ∈ M, ∀ q ∈ M, keyO p = keyO q → p.t = q.t) → ts = fsts S := by
  induction h with
  | nil =>
    intro S _ hp _
    have : S = [] := List.Perm.eq_nil hp
    subst this
    rfl
  | @cons M b q ts hb hmin hsel ih =>
    intro S hs hp hinj
    obtain ⟨hbl, hbe⟩ := List.getElem?_eq_some_iff.1 hb
    have hperm : M.Perm (q :: M.eraseIdx b) := perm_erase hb
    have hqm : q ∈ M := List.mem_of_getElem? hb
    cases S with
    | nil =>
      have := hp.length_eq
      rw [List.length_map, List.length_nil] at this
      omega
    | cons s S' =>
      have hsm : s ∈ M.map prO := hp.subset (List.mem_cons_self)
      obtain ⟨p, hpm, rfl⟩ := List.mem_map.1 hsm
      have hq2 : prO q ∈ prO p :: S' := hp.symm.subset (List.mem_map.2 ⟨q, hqm, rfl⟩)
      have h1 := hmin p hpm
      have h2 : keyO p ≤ keyO q := by
        rcases List.mem_cons.1 hq2 with h | h
        · have : (prO q).2 = (prO p).2 := by rw [h]
          exact Int.le_of_eq this.symm
        · exact (List.pairwise_cons.1 hs).1 _ h
      have hk : keyO p = keyO q := by omega
      have ht := hinj p hpm q hqm hk
      have he : prO p = prO q := by unfold prO; rw [ht, hk]
      rw [he] at hp
      have hp2 : S'.Perm ((M.eraseIdx b).map prO) := List.Perm.cons_inv (hp.trans (hperm.map prO))
      have := ih (List.pairwise_cons.1 hs).2 hp2 (fun a ha c hc => hinj a (List.mem_of_mem_eraseIdx ha) c (List.mem_of_mem_eraseIdx hc))
      rw [this]
      show q.t :: fsts S' = p.t :: fsts S'
      rw [ht]
end Go.Proofs.Ytbkjlohlfkokpaa
