/-
  Texts joined.
-/
import Derived.Test.YtgmgpcaahanmiaaY19
import Derived.Test.YtgmgpcaahanmiaaY35
set_option linter.unusedVariables false
set_option linter.unusedSimpArgs false
set_option maxRecDepth 100000
set_option maxHeartbeats 40000000
namespace Go.Proofs.Ytgmgpcaahanmiaa
open Go.RowKit
section
variable {F : FD} {n : Nat} {m : List (List Int)}
theorem GC.mkC_self (h : GC F n m) : mkC F m = (F.p, (F.k : Int), F.poly, m, 0) := by
 have h1 := h.m1
 have h8 := h.m8
 have hc := h.cap
 rw [mkC, if_neg (by omega), if_neg (by omega)]
theorem mkC_err {F : FD} {rows : List (List Int)} (h : (mkC F rows).2.2.2.2 ≠ 0) : (mkC F rows).2.2.2.1 = [] := by
 rw [mkC] at h ⊢
 split
 · rfl
 · rename_i h1
   rw [if_neg h1] at h
   split
   · rfl
   · rename_i h2
     rw [if_neg h2] at h
     exact absurd rfl h
theorem dual_res (h : GC F n m) : dualRes F.p F.k F.poly m = mkC F (nul F m n) := by rw [dualRes, if_pos h.okC, fdR_eq, h.hn]
theorem dual_ok (h : GC F n m) (hc : (dualRes F.p F.k F.poly m).2.2.2.2 = 0) :
    ∃ N, dualRes F.p F.k F.poly m = (F.p, (F.k : Int), F.poly, N, 0) ∧ GC F n N ∧ dualRes F.p F.k F.poly N = (F.p, (F.k : Int), F.poly, m, 0) ∧ m.length + N.length = n ∧
     ∀ u v : Nat → Int, Sp F m u → Sp F N v → dt F n u v = 0 := by
 have ok := h.good.ok
 obtain ⟨pv, hE⟩ := h.ech
 rw [dual_res h] at hc ⊢
 have hN : F.Mat n (nulB F m n) := nulTo_Mat ok _ _ _ _
 obtain ⟨hC, hm⟩ := mkC_gc h.good hN h.n1 h.n32 hc
 have hs := nul_spec h.good h.mat
 rw [h.fix] at hs
 refine ⟨nul F m n, hm, hC, ?_, by omega, fun u v hu hv => ?_⟩
 · have hC : GC F n (nul F m n) := hC
   rw [dual_res hC, nul_nul h.good hE, h.mkC_self]
 · have ho := (hs.1 v (hv.el ok) fun i hi => hv.big ok (nul_Mat ok m n) hi).1 hv
   exact ho.sp ok hu
theorem enc_has (h : GC F n m) {msg : List Int} (hm : ∀ c ∈ msg, 0 ≤ c ∧ c < F.n) : hasRes F.p F.k F.poly m (encTo F n m msg m.length) = true := by
 rw [hasRes, h.okC, fdR_eq, h.hn, Bool.true_and, hasV_iff h]
 exact ⟨encTo_len _ _ _ _ _, encTo_el h.good.ok _ _ _ _, encTo_sp h.good.ok h.mat hm (Nat.le_refl _)⟩
end
end Go.Proofs.Ytgmgpcaahanmiaa
