/-
  Texts joined.
-/
import Derived.Test.YtgmgpcaahanmiaaY22
import Derived.Test.YtgmgpcaahanmiaaY34
set_option linter.unusedVariables false
set_option linter.unusedSimpArgs false
set_option maxRecDepth 100000
set_option maxHeartbeats 40000000
namespace Go.Proofs.Ytgmgpcaahanmiaa
open Go.RowKit
section
variable {F : FD} {n : Nat} {m : List (List Int)}
def zf (S : List Int) : Nat → Bool
 | 0 => true
 | i + 1 => zf S i && (nth S i == 0)
theorem zf_true {S : List Int} {i : Nat} : zf S i = true ↔ ∀ k, k < i → nth S k = 0 := by
 induction i with
 | zero => exact ⟨fun _ k hk => by omega, fun _ => rfl⟩
 | succ i ih =>
  rw [zf, Bool.and_eq_true, ih, beq_iff_eq]
  refine ⟨fun h k hk => ?_, fun h => ⟨fun k hk => h k (by omega), h i (by omega)⟩⟩
  rcases Nat.lt_or_eq_of_le (Nat.lt_succ_iff.1 hk) with h1 | h1
  · exact h.1 k h1
  · rw [h1]; exact h.2
theorem zf_all {S : List Int} : zf S S.length = true ↔ ∀ x ∈ S, x = 0 := by
 rw [zf_true]
 refine ⟨fun h x hx => ?_, fun h k hk => h _ (nth_mem hk)⟩
 obtain ⟨k, hk, rfl⟩ := List.getElem_of_mem hx
 rw [← nth_lt hk]
 exact h k hk
theorem okV_true (h : GC F n m) {v : List Int} (he : ∀ x ∈ v, 0 ≤ x ∧ x < F.n) : okV F.p F.k F.poly m v = true := by rw [okV, h.okC, fdR_eq, Bool.true_and, elems_true.2 he]
theorem syn_res (h : GC F n m) {v : List Int} (hl : v.length = n) (he : ∀ x ∈ v, 0 ≤ x ∧ x < F.n) :
    ∃ S : List Int, synRes F.p F.k F.poly m v = (S, 0) ∧ S.length ≤ 32 ∧ hasRes F.p F.k F.poly m v = zf S S.length := by
 have hle := nul_le F m n
 have h32 := h.n32
 refine ⟨synTo F (nul F m n) v (nul F m n).length, ?_, by rw [synTo_len F _ v (Nat.le_refl _)]; omega, ?_⟩
 · rw [synRes, if_pos (okV_true h he), h.hn, if_pos hl, fdR_eq]
   rfl
 · rw [hasRes, h.okC, fdR_eq, h.hn, Bool.true_and, Bool.eq_iff_iff, zf_all]
   exact (syn_iff h hl he).symm
theorem near_res (h : GC F n m) {word bent : List Int} (hl : word.length = n) (hs : Sp F m (nth word)) (hbl : bent.length = n) (hbe : ∀ x ∈ bent, 0 ≤ x ∧ x < F.n) (hd : 2 * apartTo word bent n < distC F n m) :
    nearRes F.p F.k F.poly m bent = (word, (apartTo word bent n : Int), 0) := by
 rw [nearRes, if_pos (okV_true h hbe), h.hn, if_pos hbl, fdR_eq, near_word h hl hs hd]
theorem dist_res (h : GC F n m) : distRes F.p F.k F.poly m = ((distC F n m : Int), 0) := by rw [distRes, if_pos h.okC, h.hn, fdR_eq]
end
end Go.Proofs.Ytgmgpcaahanmiaa
