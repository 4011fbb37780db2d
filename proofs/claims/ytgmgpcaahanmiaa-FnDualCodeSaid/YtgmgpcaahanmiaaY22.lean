/-
  Texts joined.
-/
import Derived.Test.YtgmgpcaahanmiaaY17
import Derived.Test.YtgmgpcaahanmiaaY19
import Derived.Test.YtgmgpcaahanmiaaY20
import Derived.Test.YtgmgpcaahanmiaaY21
set_option linter.unusedVariables false
set_option linter.unusedSimpArgs false
set_option maxRecDepth 100000
set_option maxHeartbeats 40000000
namespace Go.Proofs.Ytgmgpcaahanmiaa
open Go.RowKit
section
variable {F : FD} {n : Nat} {m A : List (List Int)}
def sh (j i : Nat) : Nat := if i < j then i else i + 1
theorem wout_nth' {row : List Int} {j : Nat} (hj : j < row.length) (i : Nat) : nth (wout row j) i = nth row (sh j i) := by
 have ht : (row.take j).length = j := by rw [List.length_take]; omega
 rw [wout, sh, nth, List.getD_eq_getElem?_getD]
 by_cases h : i < j
 · rw [if_pos h, List.getElem?_append_left (by omega), List.getElem?_take, if_pos h, nth, List.getD_eq_getElem?_getD]
 · rw [if_neg h, List.getElem?_append_right (by omega), ht, List.getElem?_drop, nth, List.getD_eq_getElem?_getD]
   rw [show j + 1 + (i - j) = i + 1 by omega]
theorem woutM_nth (m : List (List Int)) (j : Nat) {l : Nat} (hl : l < m.length) : nthL (woutM m j) l = wout (nthL m l) j := by simp [woutM, nthL, hl]
theorem sp_wout (hM : F.Mat n A) {j : Nat} (hj : j < n) {v : Nat → Int} (h : Sp F A v) : Sp F (woutM A j) (fun i => v (sh j i)) := by
 induction h with
 | zero => exact .zero
 | @step v l c hs hl hc ih =>
  have h2 := ih.step (j := l) (by rw [woutM_len]; exact hl) hc
  have e : (fun i => F.add (v (sh j i)) (F.mul c (nth (nthL (woutM A j) l) i))) = fun i => F.add (v (sh j i)) (F.mul c (nth (nthL A l) (sh j i))) := by
   funext i
   rw [woutM_nth A j hl, wout_nth' (by rw [(Mat_nth hM hl).1]; exact hj)]
  rw [e] at h2
  exact h2
theorem sub4 (ok : F.Ok) (a b c d : Int) : F.sub (F.add a b) (F.add c d) = F.add (F.sub a c) (F.sub b d) :=
 lin_eq ok (lin_el ok _ _ _) (lin_el ok _ _ _) (fun i hi => D_lin2 ok hi (D_lin ok _ _ _ hi) (D_lin ok _ _ _ hi)) (fun i hi => D_lin2 ok hi (D_lin ok _ _ _ hi) (D_lin ok _ _ _ hi)) fun i => by omega
theorem erase_nth {k l : Nat} (hl : l < m.length) (hlk : l ≠ k) (f : List Int → List Int) : ∃ l', l' < ((m.eraseIdx k).map f).length ∧ nthL ((m.eraseIdx k).map f) l' = f (nthL m l) := by
 have key : ∃ l' : Nat, (m.eraseIdx k)[l']? = m[l]? := by
  by_cases h : l < k
  · exact ⟨l, by rw [List.getElem?_eraseIdx, if_pos h]⟩
  · exact ⟨l - 1, by rw [List.getElem?_eraseIdx, if_neg (by omega), show l - 1 + 1 = l by omega]⟩
 obtain ⟨l', h⟩ := key
 rw [List.getElem?_eq_getElem hl] at h
 have h1 := (List.getElem?_eq_some_iff.1 h).1
 refine ⟨l', by rw [List.length_map]; exact h1, ?_⟩
 rw [nthL, List.getD_eq_getElem?_getD, List.getElem?_map, h, nthL_lt hl]
 rfl
theorem sp_sho (hG : F.Good) (hM : F.Mat n m) {j : Nat} (hj : j < n) {v : Nat → Int} (h : Sp F m v) (h0 : v j = 0) : Sp F (shoM F m j) (fun i => v (sh j i)) := by
 have ok := hG.ok
 rcases pivAt_cases m j 0 with ⟨hp, hz⟩ | ⟨_, hk, hne⟩
 · rw [sho_none hp fun i hi => hz i (Nat.zero_le _) hi]
   exact sp_wout hM hj h
 · rw [sho_hit ok hM rfl]
   generalize hK : pivAt m j 0 = k
   rw [hK] at hk hne
   have ha2 := (el_n ok).1 (nth_el ok hM hk j)
   obtain ⟨i1, i2, i3, _⟩ := inv_spec hG (a := nth (nthL m k) j) (by omega) ha2.2
   have hLM : F.Mat n ((m.eraseIdx k).map (lesR F m j k)) := by
    intro x hx
    rw [List.mem_map] at hx
    obtain ⟨row, hr, rfl⟩ := hx
    have := hM row (List.mem_of_mem_eraseIdx hr)
    exact ⟨by rw [lesR, less_len, this.1], less_el ok _ _ _⟩
   have key : Sp F (woutM ((m.eraseIdx k).map (lesR F m j k)) j) (fun i => F.sub (v (sh j i)) (F.mul (F.mul (v j) (F.inv (nth (nthL m k) j))) (nth (nthL m k) (sh j i)))) := by
    clear h0
    induction h with
    | zero =>
     have e : (fun i => F.sub 0 (F.mul (F.mul 0 (F.inv (nth (nthL m k) j))) (nth (nthL m k) (sh j i)))) = fun _ => 0 := by
      funext i
      rw [zero_mul_all ok, zero_mul_all ok, sub_self' ok]
     rw [e]
     exact .zero
    | @step v l c hs hl hc ih =>
     have e : (fun i => F.sub (F.add (v (sh j i)) (F.mul c (nth (nthL m l) (sh j i)))) (F.mul (F.mul (F.add (v j) (F.mul c (nth (nthL m l) j))) (F.inv (nth (nthL m k) j))) (nth (nthL m k) (sh j i)))) =
         fun i => F.add (F.sub (v (sh j i)) (F.mul (F.mul (v j) (F.inv (nth (nthL m k) j))) (nth (nthL m k) (sh j i)))) (F.mul c (F.sub (nth (nthL m l) (sh j i)) (F.mul (F.mul (nth (nthL m l) j) (F.inv (nth (nthL m k) j))) (nth (nthL m k) (sh j i))))) := by
      funext i
      rw [add_mul' ok, add_mul' ok, mul_assoc_all ok c, mul_assoc_all ok c, sub4 ok, ← mul_sub' ok]
     rw [e]
     by_cases hlk : l = k
     · subst hlk
       have e2 : (fun i => F.add (F.sub (v (sh j i)) (F.mul (F.mul (v j) (F.inv (nth (nthL m l) j))) (nth (nthL m l) (sh j i)))) (F.mul c (F.sub (nth (nthL m l) (sh j i)) (F.mul (F.mul (nth (nthL m l) j) (F.inv (nth (nthL m l) j))) (nth (nthL m l) (sh j i)))))) =
           fun i => F.sub (v (sh j i)) (F.mul (F.mul (v j) (F.inv (nth (nthL m l) j))) (nth (nthL m l) (sh j i))) := by
        funext i
        rw [i1, one_mul' ok (nth_el ok hM hl _), sub_self' ok, mul_zero_all ok, add_zero' ok (sub_el' ok _ _)]
       rw [e2]
       exact ih
     · obtain ⟨l', hl', he⟩ := erase_nth hl hlk (lesR F m j k)
       have h2 := ih.step (j := l') (by rw [woutM_len]; exact hl') hc
       have e3 : (fun i => F.add (F.sub (v (sh j i)) (F.mul (F.mul (v j) (F.inv (nth (nthL m k) j))) (nth (nthL m k) (sh j i)))) (F.mul c (nth (nthL (woutM ((m.eraseIdx k).map (lesR F m j k)) j) l') i))) =
           fun i => F.add (F.sub (v (sh j i)) (F.mul (F.mul (v j) (F.inv (nth (nthL m k) j))) (nth (nthL m k) (sh j i)))) (F.mul c (F.sub (nth (nthL m l) (sh j i)) (F.mul (F.mul (nth (nthL m l) j) (F.inv (nth (nthL m k) j))) (nth (nthL m k) (sh j i))))) := by
        funext i
        rw [woutM_nth _ j hl', wout_nth' (by rw [(Mat_nth hLM hl').1]; exact hj), he, lesR, less_nth_all ok _ _ _ (by rw [(Mat_nth hM hk).1, (Mat_nth hM hl).1])]
       rw [e3] at h2
       exact h2
   have e : (fun i => F.sub (v (sh j i)) (F.mul (F.mul (v j) (F.inv (nth (nthL m k) j))) (nth (nthL m k) (sh j i)))) = fun i => v (sh j i) := by
    funext i
    rw [h0, zero_mul_all ok, zero_mul_all ok, sub_zero_el ok (h.el ok _)]
   rwa [e] at key
theorem shoM_len (F : FD) (m : List (List Int)) (j : Nat) : (shoM F m j).length ≤ m.length := shoTo_len _ _ _ _ _
theorem hasV_form (hG : F.Good) (hA : F.Mat n A) (hC : GC F n (form F A n)) {v : List Int} (hl : v.length = n) (hs : Sp F A (nth v)) : hasV F n (form F A n) v = true := by
 obtain ⟨_, _, _, hf⟩ := form_ech hG hA
 have h2 := (hf _).2 hs
 exact (hasV_iff hC).2 ⟨hl, sp_mem hG.ok h2, h2⟩
end
end Go.Proofs.Ytgmgpcaahanmiaa
namespace Go.Proofs.Ytgmgpcaahanmiaa
open Go.RowKit
section
variable {F : FD} {n : Nat} {m : List (List Int)}
theorem plc_ok (h : GC F n m) {j : Nat} (hj : j < n) : plcR F.p F.k F.poly m j = if n = 1 then 6 else 0 := by
 rw [plcR, if_pos h.okC, fdR_eq, h.hn, plcV, if_pos (inB_true.2 ⟨by omega, by omega⟩)]
def PlOk (F : FD) (n : Nat) (r : Int × Int × List Int × List (List Int) × Int) (P : List Int → Prop) : Prop :=
 r = (0, 0, [], [], 6) ∨ ∃ A, r = (F.p, (F.k : Int), F.poly, A, 0) ∧ okC F.p F.k F.poly A = true ∧ ∀ v, v.length = n → P v → hasRes F.p F.k F.poly A v = true
theorem has_form {k : Nat} {A : List (List Int)} (hG : F.Good) (hA : F.Mat k A) (hC : GC F k (form F A k)) {v : List Int} (hl : v.length = k) (hs : Sp F A (nth v)) : hasRes F.p F.k F.poly (form F A k) v = true := by
 rw [hasRes, hC.okC, fdR_eq, hC.hn, Bool.true_and]
 exact hasV_form hG hA hC hl hs
theorem pun_ok (h : GC F n m) {j : Nat} (hj : j < n) (hn : n ≠ 1) : PlOk F (n - 1) (punRes F.p F.k F.poly m j) fun v => Sp F (woutM m j) (nth v) := by
 have h0 := plc_ok h hj
 rw [if_neg hn] at h0
 have hM := woutM_Mat h.mat hj
 have hn1 := h.n1
 have hn32 := h.n32
 rw [punRes, if_pos h0, fdR_eq, h.hn, Int.toNat_natCast]
 rcases h.mk_code hM (by rw [woutM_len]; exact Nat.le_refl _) with hc | hc
 · obtain ⟨hC, hm⟩ := mkC_gc h.good hM (by omega) (by omega) hc
   exact .inr ⟨_, hm, hC.okC, fun v hl hs => has_form h.good hM hC hl hs⟩
 · exact .inl hc
theorem sho_ok (h : GC F n m) {j : Nat} (hj : j < n) (hn : n ≠ 1) : PlOk F (n - 1) (shoRes F.p F.k F.poly m j) fun v => Sp F (shoM F m j) (nth v) := by
 have h0 := plc_ok h hj
 rw [if_neg hn] at h0
 have hM := shoTo_Mat h.good.ok h.mat (k := pivAt m j 0) hj (i := m.length) (Nat.le_refl _)
 have hn1 := h.n1
 have hn32 := h.n32
 rw [shoRes, if_pos h0, fdR_eq, h.hn, Int.toNat_natCast]
 rcases h.mk_code hM (shoM_len F m j) with hc | hc
 · obtain ⟨hC, hm⟩ := mkC_gc h.good hM (by omega) (by omega) hc
   exact .inr ⟨_, hm, hC.okC, fun v hl hs => has_form h.good hM hC hl hs⟩
 · exact .inl hc
theorem wout_fun (h : GC F n m) {j : Nat} (hj : j < n) {word : List Int} (hl : word.length = n) : nth (wout word j) = fun i => nth word (sh j i) := by
 funext i
 exact wout_nth' (by omega) i
theorem enc_res (h : GC F n m) {msg : List Int} (hl : msg.length = m.length) (he : ∀ c ∈ msg, 0 ≤ c ∧ c < F.n) : encRes F.p F.k F.poly m msg = (encTo F n m msg m.length, 0) := by
 rw [encRes, okV, h.okC, fdR_eq, Bool.true_and, if_pos (elems_true.2 he), if_pos hl, h.hn, hl]
end
end Go.Proofs.Ytgmgpcaahanmiaa
