/-
  Walks: products of vectors, on both sides.
-/
import Derived.BigQuiet
import Derived.Deep.DeepCutAuto
import Derived.Deep.DeepMust
import Derived.Deep.DrawnRows
import Derived.Deep.Draws
import Derived.Deep.OwnRows
import Derived.Deep.QuietTactic
import Derived.Deep.RegionHeld3
import Derived.IntWalk
import Derived.Laws.Rows
import Derived.Lib.Hide
import Derived.Maps.AppendAt
import Derived.StillTailTactics
import Derived.Test.YtgmgpcaahanmiaaProg
import Derived.WalkKit
import Derived.WalkLawsBesides
import Derived.WalkSpells
import Derived.Test.YtgmgpcaahanmiaaZ7
import Derived.Test.YtgmgpcaahanmiaaZ8
import Derived.Test.YtgmgpcaahanmiaaZ27
set_option linter.unusedVariables false
set_option linter.unusedSimpArgs false
namespace Go.Proofs.Ytgmgpcaahanmiaa
open Go.RowKit
attribute [local go_sem ↓] Go.wp_at_zero Go.wp_at_succ

def dotF (F : FD) (xs ys : List Int) : Int := F.sum (fun j => F.mul (nth xs j) (nth ys j)) xs.length
theorem dotF_bd {F : FD} (ok : F.Ok) (xs ys : List Int) : 0 ≤ dotF F xs ys ∧ dotF F xs ys < F.n := (el_n ok).1 (sum_el ok _ _)

set_option maxRecDepth 100000 in
set_option maxHeartbeats 1600000 in
theorem dot_any (F : FD) (tv : Value) (a b : Option Addr) (c d : Nat) (xs ys : List Int) (n : Nat) (w : World) (hT : Tabs w F tv) (ok : F.Ok) (hx : Rd w a xs) (hy : Rd w b ys) (hxl : xs.length = n) (hyl : ys.length = n) (hm : ∀ x ∈ xs, 0 ≤ x ∧ x < F.n) (hm2 : ∀ y ∈ ys, 0 ≤ y ∧ y < F.n) :
    Calls Try.prog 131 #[tv, .slice a n c, .slice b n d] w fun e w' => e = .returned (.int .i64 (dotF F xs ys)) ∧ Below w.heap.size w w' := by
  obtain ⟨aA, cA, aS, cS, aM, cM, aI, cI, rfl, tA, tS, tM, tI⟩ := hT
  obtain ⟨n2, n64⟩ := ok.n_bd
  have hxn := hx.len
  rw [hxl] at hxn
  have hdef : dotF F xs ys = F.sum (fun j => F.mul (nth xs j) (nth ys j)) n := by rw [dotF, hxl]
  obtain ⟨W0, hHW⟩ : ∃ z, z = w.alloc (.cells #[.int .i64 F.n, .slice aA F.n cA, .slice aS F.n cS, .slice aM F.n cM, .slice aI F.n cI] 93) := ⟨_, rfl⟩
  have b0 : Below w.heap.size w W0 := by rw [hHW]; exact (Below.refl _ _).alloc (Nat.le_refl _) _
  have kT : Blk W0 w.heap.size 93 #[.int .i64 F.n, .slice aA F.n cA, .slice aS F.n cS, .slice aM F.n cM, .slice aI F.n cI] := by rw [hHW]; exact Blk.new _ _ _ rfl
  have HW := Lib.hid hHW
  have HX := hide (hx.below b0)
  have HY := hide (hy.below b0)
  have HM := hide hm
  have HM2 := hide hm2
  have TA := hide (tA.below b0)
  have TM := hide (tM.below b0)
  have HXL := Lib.hid hxl
  have HYL := Lib.hid hyl
  have HDEF := Lib.hid hdef
  clear hHW hx hy hm hm2 tA tS tM tI hxl hyl hdef
  go_enter Try.func131, Try.ntmps131
  go_upto_region 1 with fail
  rw [← HW.out]
  go_wp2_with fail
  go_loopw [7, 12] (fun sv iv wr => ∃ (k s : Nat), iv = .int .i64 k ∧ sv = .int .i64 s ∧ k ≤ n ∧ s < F.n ∧ Hid ((s : Int) = F.sum (fun j => F.mul (nth xs j) (nth ys j)) k) ∧ Qt W0 wr) (fun _ iv _ => n - (intOf iv).toNat)
  case atStart => exact ⟨0, 0, rfl, rfl, Nat.zero_le _, by omega, rfl, Qt.refl _⟩
  case round =>
    obtain ⟨k, s, rfl, rfl, hk, hs, hS, hq⟩ := hrel
    by_cases hkn : k < n
    · have hb := hq.below W0.heap.size
      obtain ⟨gx, ox, rfl, _, hcx⟩ := ((unhide HX).below hb).at_ (by rw [HXL.out]; omega)
      obtain ⟨gy, oy, rfl, _, hcy⟩ := ((unhide HY).below hb).at_ (by rw [HYL.out]; omega)
      have cx := hcx k (by rw [HXL.out]; exact hkn)
      have cy := hcy k (by rw [HYL.out]; exact hkn)
      have hxr := unhide HM _ (nth_mem (k := k) (by rw [HXL.out]; exact hkn))
      have hyr := unhide HM2 _ (nth_mem (k := k) (by rw [HYL.out]; exact hkn))
      have hst : F.sum (fun j => F.mul (nth xs j) (nth ys j)) (k + 1) = F.add s (F.mul (nth xs k) (nth ys k)) := by rw [FD.sum, ← hS.out]
      obtain ⟨x, hx⟩ := Int.eq_ofNat_of_zero_le hxr.1
      obtain ⟨y, hy⟩ := Int.eq_ofNat_of_zero_le hyr.1
      rw [hx] at cx hxr hst
      rw [hy] at cy hyr hst
      have hMb := mul_bd ok x y
      obtain ⟨m, hmm⟩ := Int.eq_ofNat_of_zero_le hMb.1
      obtain ⟨bM, oM, bm, om, cm, rfl, m1, m2⟩ := tab_at ((unhide TM).below hb) (i := x) (j := y) (by omega) (by omega)
      obtain ⟨bA, oA, ba, oa, ca, rfl, a1, a2⟩ := tab_at ((unhide TA).below hb) (i := s) (j := m) (by omega) (by omega)
      rw [hmm] at m2 hst hMb
      have hDb := add_bd ok s m
      obtain ⟨D, hD⟩ := Int.eq_ofNat_of_zero_le hDb.1
      rw [hD] at a2 hst hDb
      have kR := kT.below hb kT.lt
      have t1 := kR.cell 1
      have t3 := kR.cell 3
      have lx : x < F.n := by omega
      have ly : y < F.n := by omega
      have lm : m < F.n := by omega
      have lD : D < F.n := by omega
      have HST := Lib.hid hst
      clear hst hD hmm hx hy hcx hcy kR hxr hyr hMb hDb hb
      go_upto_region 5 with fail
      go_quiet (fail)
      go_wp2
      go_roundw
      case rel => exact ⟨k + 1, D, by go_num, rfl, by omega, lD, HST.out.symm, hq.trans (Qt.one _ _)⟩
      case measure => simp only [intOf]; omega
    · have hke : k = n := by omega
      have HE := Lib.hid hke
      clear hke
      go_wp2
      go_ret
      exact ⟨ret_int (by rw [HDEF.out, hS.out, HE.out]), b0.trans ((hq.below _).mono b0.size)⟩

end Go.Proofs.Ytgmgpcaahanmiaa

