/-
  Walks: products of rows; IsSelfOrthogonal on both sides. Printed by gen_cwo.py.
-/
import Derived.BigQuiet
import Derived.BigRegion
import Derived.ChangeOld
import Derived.Deep.DeepCutAuto
import Derived.Deep.DeepMust
import Derived.Deep.DrawnRows
import Derived.Deep.Draws
import Derived.Deep.OwnRows
import Derived.Deep.QuietTactic
import Derived.Deep.RegionHeld3
import Derived.Deep.Slices
import Derived.IntWalk
import Derived.Laws.Rows
import Derived.Lib.Hide
import Derived.Maps.AppendAt
import Derived.OpenShut
import Derived.OwnWalk
import Derived.ProofKit
import Derived.ShutString
import Derived.StillTailTactics
import Derived.Test.YtcblhjhabhjbkaaProg
import Derived.Test.YtcblhjhabhjbkaaRows
import Derived.WalkKit
import Derived.WalkLawsBesides
import Derived.WalkSpells
import Derived.Test.YtcblhjhabhjbkaaZ20
import Derived.Test.YtcblhjhabhjbkaaZ24
import Derived.Test.YtcblhjhabhjbkaaZ30
import Derived.Test.YtcblhjhabhjbkaaZ35
import Derived.Test.YtcblhjhabhjbkaaZ37
import Derived.Test.YtcblhjhabhjbkaaZ39
import Derived.Test.YtcblhjhabhjbkaaZ46
set_option linter.unusedVariables false
set_option linter.unusedSimpArgs false
namespace Go.Proofs.Ytcblhjhabhjbkaa
open Go.RowKit
attribute [local go_sem ↓] Go.wp_at_zero Go.wp_at_succ
/-- The products of all rows with all rows. -/
def gram (F : FD) (m : List (List Int)) : List (List Int) := m.map fun r => m.map fun s => dotF F r s
def soV (F : FD) (m : List (List Int)) : Bool := (List.range m.length).all fun i => (List.range (i + 1)).all fun k => dotF F (nthL m i) (nthL m k) == 0
def soRes (p d : Int) (xs : List Int) (m : List (List Int)) : Bool := okC p d xs m && soV (fdR p d xs) m
theorem dotF_comm {F : FD} (ok : F.Ok) {xs ys : List Int} (h : xs.length = ys.length) : dotF F xs ys = dotF F ys xs := by
  rw [dotF, dotF, h]
  exact sum_congr fun j _ => mul_comm' ok _ _
theorem gram_so {F : FD} (ok : F.Ok) {n : Nat} {m : List (List Int)} (hM : F.Mat n m) : (!(gram F m).any fun r => !isZ r) = soV F m := by
  rw [Bool.eq_iff_iff, Bool.not_eq_true', List.any_eq_false, soV, List.all_eq_true]
  have key : ∀ i k, i < m.length → k < m.length → dotF F (nthL m i) (nthL m k) = dotF F (nthL m k) (nthL m i) := fun i k hi hk => dotF_comm ok (by rw [(Mat_nth hM hi).1, (Mat_nth hM hk).1])
  constructor
  · intro h i hi
    rw [List.mem_range] at hi
    rw [List.all_eq_true]
    intro k hk
    rw [List.mem_range] at hk
    have h1 := h (m.map fun s => dotF F (nthL m i) s) (List.mem_map.2 ⟨nthL m i, nthL_mem hi, rfl⟩)
    simp only [Bool.not_eq_true', Bool.not_eq_false, isZ] at h1
    have h2 : (m.map fun s => dotF F (nthL m i) s).any notZero = false := by simpa using h1
    rw [List.any_eq_false] at h2
    have h3 := h2 (dotF F (nthL m i) (nthL m k)) (List.mem_map.2 ⟨nthL m k, nthL_mem (by omega), rfl⟩)
    simpa [notZero] using h3
  · intro h r hr
    rw [gram, List.mem_map] at hr
    obtain ⟨x, hx, rfl⟩ := hr
    obtain ⟨i, hi, rfl⟩ := List.getElem_of_mem hx
    rw [← nthL_lt hi]
    have hz : (m.map fun s => dotF F (nthL m i) s).any notZero = false := by
      rw [List.any_eq_false]
      intro y hy
      rw [List.mem_map] at hy
      obtain ⟨z, hz, rfl⟩ := hy
      obtain ⟨k, hk, rfl⟩ := List.getElem_of_mem hz
      rw [← nthL_lt hk]
      have hik : dotF F (nthL m i) (nthL m k) = 0 := by
        by_cases hle : k ≤ i
        · have := h i (List.mem_range.2 hi)
          rw [List.all_eq_true] at this
          simpa using this k (List.mem_range.2 (by omega))
        · have := h k (List.mem_range.2 hk)
          rw [List.all_eq_true] at this
          rw [key i k hi hk]
          simpa using this i (List.mem_range.2 (by omega))
      simp [notZero, hik]
    simp [isZ, hz]
set_option maxRecDepth 100000 in
set_option maxHeartbeats 3200000 in
theorem products_any (F : FD) (a : Option Addr) (c : Nat) (ra : Option Addr) (rc : Nat) (m : List (List Int)) (n : Nat) (w : World) (hR : Rd w a F.poly) (hm : RdS w ra m) (hC : GC F n m) :
    Calls Try.prog 49 #[.agg #[.int .i64 F.p, .int .i64 F.k, .slice a F.poly.length c, .slice ra m.length rc]] w fun e w' => ∃ v, e = .returned v ∧ OwnS w' w.heap.size v (gram F m) ∧ Below w.heap.size w w' := by
  have hml := hm.len
  have ok := hC.good.ok
  have hm1 := hC.m1
  have hm0 : 0 < m.length := by omega
  have hm8 := hC.m8
  have hn1 := hC.n1
  have hn32 := hC.n32
  obtain ⟨W0, hHW⟩ : ∃ z, z = w.alloc (.cells #[.int .i64 F.p, .int .i64 F.k, .slice a F.poly.length c, .slice ra m.length rc] 31) := ⟨_, rfl⟩
  have b0 : Below w.heap.size w W0 := by rw [hHW]; exact (Below.refl _ _).alloc (Nat.le_refl _) _
  have k0 : Blk W0 w.heap.size 31 #[.int .i64 F.p, .int .i64 F.k, .slice a F.poly.length c, .slice ra m.length rc] := by rw [hHW]; exact Blk.new _ _ _ rfl
  have sk0 : w.heap.size < W0.heap.size := k0.lt
  have HW := Lib.hid hHW
  clear hHW
  obtain ⟨gb, ob, rfl, hgb, hcc⟩ := (hm.below b0).at_ hm0
  obtain ⟨ai, ci, hr0, _⟩ := hcc 0 hm0
  rw [Nat.add_zero, hC.hn] at hr0
  have hT := fun W (h : Below W0.heap.size W0 W) => tablesOf_any F a c W ((hR.below b0).below h) ok
  have hCO := fun W (h : Below W0.heap.size W0 W) => columnsOf_any (some ⟨gb, ob, none⟩) rc m n W ((hm.below b0).below h) (fun xs hx => (hC.mat xs hx).1) (by omega) (by omega)
  have hcl := cols_len m n
  have hcM := cols_Mat ok hC.mat
  have hcc2 := cols_cols hC.mat
  have hgr : prodTo F m (cols (cols m n) m.length) m.length = gram F m := by rw [hcc2, prodTo, List.take_length, gram]
  obtain ⟨cs, hcs⟩ : ∃ cs, cs = cols m n := ⟨_, rfl⟩
  rw [← hcs] at hCO hcl hcM hgr
  have hTI := fun tv ba bc W (h : Below W0.heap.size W0 W) hT (hy : RdS W ba cs) => times_any F tv (some ⟨gb, ob, none⟩) rc m ba bc cs n m.length W hT ok ((hm.below b0).below h) hy hC.mat hcM hcl (by omega) (by omega) (by omega) (by omega)
  rw [hgr] at hTI
  have HT := hide hT
  have HCO := hide hCO
  have HTI := hide hTI
  have BX := hide (show ∀ W, Below W0.heap.size W0 W → (Below W0.heap.size W0 W ∧ W.cell? ⟨w.heap.size, 0, none⟩ = some (.int .i64 F.p) ∧ W.cell? ⟨w.heap.size, 1, none⟩ = some (.int .i64 F.k) ∧ W.cell? ⟨w.heap.size, 2, none⟩ = some (.slice a F.poly.length c) ∧ W.cell? ⟨w.heap.size, 3, none⟩ = some (.slice (some ⟨gb, ob, none⟩) m.length rc) ∧ W.cell? ⟨gb, ob, none⟩ = some (.slice ai n ci)) from fun W h => ⟨h, (k0.below h k0.lt).cell 0, (k0.below h k0.lt).cell 1, (k0.below h k0.lt).cell 2, (k0.below h k0.lt).cell 3, (h.cell (p := ⟨gb, ob, none⟩) hgb).trans hr0⟩)
  clear hT hCO hTI hgr hcl hcM hcc2 hcs hcc hC
  go_enter Try.func49, Try.ntmps49
  go_upto_region 1 with fail
  rw [← HW.out]
  go_region_held3 (fun W => Below W0.heap.size W0 W ∧ W.cell? ⟨w.heap.size, 0, none⟩ = some (.int .i64 F.p) ∧ W.cell? ⟨w.heap.size, 1, none⟩ = some (.int .i64 F.k) ∧ W.cell? ⟨w.heap.size, 2, none⟩ = some (.slice a F.poly.length c) ∧ W.cell? ⟨w.heap.size, 3, none⟩ = some (.slice (some ⟨gb, ob, none⟩) m.length rc) ∧ W.cell? ⟨gb, ob, none⟩ = some (.slice ai n ci))
    (first | exact (unhide BX) _ (Below.refl _ _).drew | exact (unhide BX) _ (by assumption))
    (first
      | (go_at_call 47; refine (unhide HT _ ?_).mono ?_; exact And.left (by assumption); rintro e w2 ⟨tv, rfl, t2, b2⟩; have hB2 := Below.chain (a := W0) (And.left (by assumption)) b2; have hY := Below.refl w2.heap.size w2)
      | (go_at_call 88; refine (unhide HCO _ ?_).mono ?_; exact And.left (by assumption); rintro e w3 ⟨u, rfl, o3, b3⟩; obtain ⟨ax, cx, rfl, r3⟩ := o3.form; have hB2 := Below.chain (a := W0) (And.left (by assumption)) b3; have hX := b3)
      | (go_at_call 109; refine (unhide HTI tv ax cx _ hB2 (by first | exact t2 | exact t2.below b3) (by first | exact r3 | exact r3.below b2)).mono ?_; rintro e w4 ⟨u4, rfl, o4, b4⟩; have hB4 := Below.chain hB2 b4; have hZ := hB2.size))
  all_goals
    go_wp2
    go_ret
    exact ⟨_, rfl, o4.mono (by omega), b0.trans (hB4.mono (Nat.le_of_lt sk0))⟩
end Go.Proofs.Ytcblhjhabhjbkaa

