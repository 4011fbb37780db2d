/-
  Plain mathematics: rows extended by the element that makes their sum zero.
-/
import Derived.BigQuiet
import Derived.BigRegion
import Derived.ChangeOld
import Derived.Deep.DeepCutAuto
import Derived.Deep.DeepMust
import Derived.Deep.DrawnRows
import Derived.Deep.Draws
import Derived.Deep.OwnRows
import Derived.Deep.QuietTactic
import Derived.Deep.RegionHeld3
import Derived.Deep.Slices
import Derived.IntWalk
import Derived.Laws.Rows
import Derived.Lib.Hide
import Derived.Maps.AppendAt
import Derived.OpenShut
import Derived.OwnWalk
import Derived.ProofKit
import Derived.ShutString
import Derived.StillTailTactics
import Derived.Test.YtgmgpcaahanmiaaProg
import Derived.Test.YtgmgpcaahanmiaaRows
import Derived.WalkKit
import Derived.WalkLawsBesides
import Derived.WalkSpells
import Derived.Test.YtgmgpcaahanmiaaZ24
import Derived.Test.YtgmgpcaahanmiaaZ28
set_option linter.unusedVariables false
set_option linter.unusedSimpArgs false
namespace Go.Proofs.Ytgmgpcaahanmiaa
open Go.RowKit

section
variable {F : FD}
def sumR (F : FD) (row : List Int) (k : Nat) : Int := F.sum (fun j => nth row j) k
/-- Elements taken off zero, one after the other. -/
def offTo (F : FD) (row : List Int) : Nat → Int
  | 0 => 0
  | k + 1 => F.sub (offTo F row k) (nth row k)
theorem offTo_eq (ok : F.Ok) (row : List Int) (k : Nat) : offTo F row k = F.sub 0 (sumR F row k) := by
  induction k with
  | zero => show (0 : Int) = F.sub 0 0; rw [sub_self' ok]
  | succ k ih =>
    rw [offTo, ih]
    show F.sub (F.sub 0 (sumR F row k)) (nth row k) = F.sub 0 (F.add (sumR F row k) (nth row k))
    exact lin_eq ok (lin_el ok _ _ _) (lin_el ok _ _ _) (fun z hz => D_lin2 ok hz (D_lin ok _ _ _ hz) (Cg.refl _ _)) (fun z hz => D_lin2 ok hz (Cg.refl _ _) (D_lin ok _ _ _ hz)) fun z => by omega
def extE (F : FD) (row : List Int) : Int := F.sub 0 (sumR F row row.length)
def extRow (F : FD) (row : List Int) : List Int := row ++ [extE F row]
def extM (F : FD) (m : List (List Int)) : List (List Int) := m.map (extRow F)
theorem extRow_len (F : FD) (row : List Int) : (extRow F row).length = row.length + 1 := by simp [extRow]
theorem extRow_lt (F : FD) (row : List Int) {i : Nat} (h : i < row.length) : nth (extRow F row) i = nth row i := by
  rw [nth, nth, extRow, List.getD_eq_getElem?_getD, List.getElem?_append_left h, ← List.getD_eq_getElem?_getD]
theorem extM_len (F : FD) (m : List (List Int)) : (extM F m).length = m.length := by simp [extM]
theorem extM_nth (F : FD) (m : List (List Int)) {i : Nat} (h : i < m.length) : nthL (extM F m) i = extRow F (nthL m i) := by
  rw [nthL_lt (by rw [extM_len]; exact h), nthL_lt h]
  simp [extM]
theorem extM_Mat (ok : F.Ok) {n : Nat} {m : List (List Int)} (h : F.Mat n m) : F.Mat (n + 1) (extM F m) := by
  intro xs hx
  rw [extM, List.mem_map] at hx
  obtain ⟨row, hr, rfl⟩ := hx
  have := h row hr
  refine ⟨by rw [extRow_len, this.1], fun x hx => ?_⟩
  rw [extRow, List.mem_append, List.mem_singleton] at hx
  rcases hx with hx | rfl
  · exact this.2 x hx
  · exact sub_bd ok _ _
theorem ext_ech (ok : F.Ok) {n : Nat} {m : List (List Int)} {pv : List Nat} (h : Ech F n m pv) : Ech F (n + 1) (extM F m) pv := by
  have hr : ∀ j i, j < m.length → i < n → nth (nthL (extM F m) j) i = nth (nthL m j) i := fun j i hj hi => by
    rw [extM_nth F m hj, extRow_lt F _ (by rw [(Mat_nth h.mat hj).1]; exact hi)]
  refine ⟨extM_Mat ok h.mat, by rw [extM_len]; exact h.len, fun j hj => by have := h.lt j hj; omega, h.mono, fun i j hi hj => ?_, fun j i hj hi => ?_⟩
  · rw [hr i _ (by rw [← h.len]; exact hi) (h.lt j hj)]
    exact h.one i j hi hj
  · rw [hr j i (by rw [← h.len]; exact hj) (by have := h.lt j hj; omega)]
    exact h.lead j i hj hi
theorem GC.ext_fix {n : Nat} {m : List (List Int)} (h : GC F n m) : form F (extM F m) (n + 1) = extM F m ∧ mkC F (extM F m) = (F.p, (F.k : Int), F.poly, extM F m, 0) := by
  obtain ⟨pv, _, hE, _⟩ := form_ech h.good h.mat
  rw [h.fix] at hE
  refine ⟨(form_fix h.good (ext_ech h.good.ok hE)).1, ?_⟩
  have h1 := h.m1
  have h8 := h.m8
  have hc := h.cap
  unfold mkC
  rw [extM_len, if_neg (by omega), if_neg (by omega)]
/-- The first i rows extended. -/
def extTo (F : FD) (m : List (List Int)) (i : Nat) : List (List Int) := (m.take i).map (extRow F) ++ m.drop i
theorem extTo_len (F : FD) (m : List (List Int)) {i : Nat} (hi : i ≤ m.length) : (extTo F m i).length = m.length := by simp [extTo]; omega
theorem extTo_nth (F : FD) (m : List (List Int)) {i : Nat} (hi : i < m.length) : nthL (extTo F m i) i = nthL m i := by
  have hl : ((m.take i).map (extRow F)).length = i := by simp; omega
  rw [nthL, nthL, extTo, List.getD_eq_getElem?_getD, List.getElem?_append_right (by omega), hl, Nat.sub_self, List.getElem?_drop, Nat.add_zero, ← List.getD_eq_getElem?_getD]
theorem extTo_succ (F : FD) (m : List (List Int)) {i : Nat} (hi : i < m.length) : (extTo F m i).set i (extRow F (nthL m i)) = extTo F m (i + 1) := by
  have hl : ((m.take i).map (extRow F)).length = i := by simp; omega
  rw [extTo, List.set_append_right _ _ (by omega), hl, Nat.sub_self, extTo, take_nthL hi, List.map_append, List.append_assoc, List.drop_eq_getElem_cons hi]
  rfl
theorem extTo_zero (F : FD) (m : List (List Int)) : extTo F m 0 = m := by simp [extTo]
theorem extTo_all (F : FD) (m : List (List Int)) : extTo F m m.length = extM F m := by simp [extTo, extM]
def extUp (F : FD) (m : List (List Int)) (i : Nat) : List (List Int) := (m.take i).map (extRow F)
theorem extUp_len (F : FD) (m : List (List Int)) {i : Nat} (hi : i ≤ m.length) : (extUp F m i).length = i := by simp [extUp]; omega
theorem extUp_succ (F : FD) (m : List (List Int)) {i : Nat} (hi : i < m.length) : extUp F m (i + 1) = extUp F m i ++ [extRow F (nthL m i)] := by rw [extUp, extUp, take_nthL hi, List.map_append]; rfl
theorem extUp_all (F : FD) (m : List (List Int)) : extUp F m m.length = extM F m := by rw [extUp, List.take_length, extM]
end
end Go.Proofs.Ytgmgpcaahanmiaa

