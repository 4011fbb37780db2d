/-
  Texts joined.
-/
import Derived.Test.YtgmgpcaahanmiaaY4
import Derived.Test.YtgmgpcaahanmiaaY20
set_option linter.unusedVariables false
set_option linter.unusedSimpArgs false
set_option maxRecDepth 100000
set_option maxHeartbeats 40000000
namespace Go.Proofs.Ytgmgpcaahanmiaa
open Go.RowKit
theorem OwnSH.caps {w : World} {B hi rc : Nat} {ra : Option Addr} {xss : List (List Int)} (h : OwnSH w B hi (.slice ra xss.length rc) xss) : CapS w ra xss := by
 intro g ob e k hk ai n' ci hc
 subst e
 obtain ⟨_, vs, hr, hin, _⟩ := h
 have hv := hin.1
 rcases hr.2 with ⟨e1, _⟩ | ⟨g2, cap, cur, e1, _⟩
 · injection e1 with e1; simp at e1
 · injection e1 with e1 _ _
   injection e1 with e1
   injection e1 with e1 e2 _
   subst e1; subst e2
   have hkv : k < vs.length := by omega
   have h1 := hr.cellAt k (by omega)
   rw [Nat.zero_add, h1, List.getElem?_eq_getElem hkv] at hc
   injection hc with hc
   obtain ⟨_, h2⟩ := hin.2.1 k vs[k] (List.getElem?_eq_getElem hkv)
   rw [hc] at h2
   rcases h2.2 with ⟨e3, _⟩ | ⟨g3, cap3, cur3, e3, _, _, h4, _⟩
   · injection e3 with _ e4 _; omega
   · injection e3 with _ e4 e5; omega
theorem OwnCH.caps {w : World} {B hi n c rc : Nat} {a ra : Option Addr} {xs : List Int} {xss : List (List Int)} (h : OwnCH w B hi (.slice a n c) (.slice ra xss.length rc) xs xss) : CapS w ra xss := by
 obtain ⟨_, _, _, _, h⟩ := h
 exact h.caps
end Go.Proofs.Ytgmgpcaahanmiaa
