/-
  Walks: IsMds on both sides. Printed by gen_cwm.py.
-/
import Derived.BigQuiet
import Derived.BigRegion
import Derived.ChangeOld
import Derived.Deep.DeepCutAuto
import Derived.Deep.DeepMust
import Derived.Deep.DrawnRows
import Derived.Deep.Draws
import Derived.Deep.OwnRows
import Derived.Deep.QuietTactic
import Derived.Deep.RegionHeld3
import Derived.Deep.Slices
import Derived.IntWalk
import Derived.Laws.Rows
import Derived.Lib.Hide
import Derived.Maps.AppendAt
import Derived.OpenShut
import Derived.OwnWalk
import Derived.ProofKit
import Derived.ShutString
import Derived.StillTailTactics
import Derived.Test.YtgmgpcaahanmiaaProg
import Derived.Test.YtgmgpcaahanmiaaRows
import Derived.WalkKit
import Derived.WalkLawsBesides
import Derived.WalkSpells
import Derived.Test.YtgmgpcaahanmiaaZ23
import Derived.Test.YtgmgpcaahanmiaaZ30
set_option linter.unusedVariables false
set_option linter.unusedSimpArgs false
namespace Go.Proofs.Ytgmgpcaahanmiaa
open Go.RowKit
attribute [local go_sem ↓] Go.wp_at_zero Go.wp_at_succ
noncomputable def mdsRes (p d : Int) (xs : List Int) (m : List (List Int)) : Bool × Int := if okC p d xs m = true then ((distC (fdR p d xs) (nthL m 0).length m : Int) == ((nthL m 0).length : Int) - (m.length : Int) + 1, 0) else (false, 1)
def ResB (w : World) (r : Bool × Int) (e : Ending) (w' : World) : Prop := e = .returned (.tuple #[.bool r.1, .int .i64 r.2]) ∧ Below w.heap.size w w'
theorem leastD_ok {cs : List Int} {d0 : Nat} (h1 : 1 ≤ d0) (h2 : d0 < cs.length) (h3 : nth cs d0 ≠ 0) : 1 ≤ leastD cs ∧ leastD cs ≤ d0 ∧ nth cs (leastD cs) ≠ 0 ∧ ∀ j, 1 ≤ j → j < leastD cs → nth cs j = 0 := by
  cases h : (List.range cs.length).find? (fun d => decide (1 ≤ d) && (nth cs d != 0)) with
  | none =>
    rw [List.find?_eq_none] at h
    have := h d0 (List.mem_range.2 h2)
    simp [h1, h3] at this
  | some d =>
    have e : leastD cs = d := by rw [leastD, h]; rfl
    rw [List.find?_range_eq_some] at h
    obtain ⟨a, b, c⟩ := h
    simp only [Bool.and_eq_true, decide_eq_true_eq, bne_iff_ne] at a
    have hz : ∀ j, 1 ≤ j → j < d → nth cs j = 0 := fun j j1 j2 => by
      have := c j j2
      simp only [Bool.not_eq_true', Bool.and_eq_false_iff, decide_eq_false_iff_not, bne_eq_false_iff_eq] at this
      rcases this with h | h
      · exact absurd j1 h
      · exact h
    rw [e]
    refine ⟨a.1, ?_, a.2, hz⟩
    rcases Nat.lt_or_ge d0 d with hh | hh
    · exact absurd (hz d0 h1 hh) h3
    · exact hh
theorem GC.dist {F : FD} {n : Nat} {m : List (List Int)} (h : GC F n m) : 1 ≤ distC F n m ∧ distC F n m ≤ n := by
  obtain ⟨d0, h1, h2, h3⟩ := h.some_wt
  have := leastD_ok h1 (by rw [wts_len]; omega) h3
  exact ⟨this.1, by have := this.2.1; rw [distC]; omega⟩
set_option maxRecDepth 100000 in
set_option maxHeartbeats 1600000 in
theorem implMD_any (p d : Int) (a : Option Addr) (c : Nat) (xs : List Int) (ra : Option Addr) (rc : Nat) (m : List (List Int)) (w : World) (hx : Rd w a xs) (hm : RdS w ra m) (ed : I64 d) : Calls Try.prog 27 #[.agg #[.int .i64 p, .int .i64 d, .slice a xs.length c, .slice ra m.length rc]] w (ResB w (mdsRes p d xs m)) := by
  have hml := hm.len
  generalize hR : mdsRes p d xs m = r
  obtain ⟨W0, hHW⟩ : ∃ z, z = w.alloc (.cells #[.int .i64 p, .int .i64 d, .slice a xs.length c, .slice ra m.length rc] 37) := ⟨_, rfl⟩
  have b0 : Below w.heap.size w W0 := by rw [hHW]; exact (Below.refl _ _).alloc (Nat.le_refl _) _
  have k0 : Blk W0 w.heap.size 37 #[.int .i64 p, .int .i64 d, .slice a xs.length c, .slice ra m.length rc] := by rw [hHW]; exact Blk.new _ _ _ rfl
  have sk0 : w.heap.size < W0.heap.size := k0.lt
  have HW := Lib.hid hHW
  clear hHW
  have hD := implDI_any p d a c xs ra rc m W0 (hx.below b0) (hm.below b0) ed
  cases hk : okC p d xs m with
  | false =>
    have HN := Lib.hid (show r = (false, 1) by rw [← hR, mdsRes, hk]; rfl)
    have hdr : distRes p d xs m = (0, 1) := by rw [distRes, hk]; rfl
    rw [hdr] at hD
    have HD := hide hD
    clear hD hk hR hdr
    have f0 := k0.cell 0
    have f1 := k0.cell 1
    have f2 := k0.cell 2
    have f3 := k0.cell 3
    go_enter Try.func27, Try.ntmps27
    go_upto_region 1 with fail
    rw [← HW.out]
    go_wp2_with fail
    refine (unhide HD).mono ?_
    rintro e w1 ⟨rfl, b1⟩
    have k1 := k0.below b1 k0.lt
    clear f0 f1 f2 f3
    have f0 := k1.cell 0
    have f1 := k1.cell 1
    have f2 := k1.cell 2
    have f3 := k1.cell 3
    have bb1 := b0.trans (b1.mono (Nat.le_of_lt sk0))
    go_wp2
    go_ret2
    rw [HN.out]
    exact ⟨rfl, bb1⟩
  | true =>
    obtain ⟨F, n, rfl, rfl, rfl, hC⟩ := okC_gc hk
    have ok := hC.good.ok
    obtain ⟨n2, n64⟩ := ok.n_bd
    have hm1 := hC.m1
    have hm0 : 0 < m.length := by omega
    have hm8 := hC.m8
    have hn1 := hC.n1
    have hn32 := hC.n32
    have hdr : distRes F.p F.k F.poly m = ((distC F n m : Int), 0) := by rw [distRes, hk, fdR_eq, hC.hn]; rfl
    have hRR : r = ((distC F n m : Int) == (n : Int) - (m.length : Int) + 1, 0) := by rw [← hR, mdsRes, hk, fdR_eq, hC.hn]; rfl
    rw [hdr] at hD
    obtain ⟨hd1, hdn⟩ := hC.dist
    have hL := fun W (h : Below W0.heap.size W0 W) => lengthOf_any F.p F.k a F.poly.length c ra rc m W ((hm.below b0).below h) hm1
    rw [hC.hn] at hL
    generalize distC F n m = D at hd1 hdn hD hRR
    have hw1 : IntKind.i64.wrap ((n : Int) - (m.length : Int)) = (n : Int) - (m.length : Int) := IntWalk.i64_in _ (by omega)
    have hw2 : IntKind.i64.wrap ((n : Int) - (m.length : Int) + 1) = (n : Int) - (m.length : Int) + 1 := IntWalk.i64_in _ (by omega)
    obtain ⟨R, hRb⟩ : ∃ R, R = ((D : Int) == (n : Int) - (m.length : Int) + 1) := ⟨_, rfl⟩
    rw [← hRb] at hRR
    have HD := hide hD
    have HL := hide hL
    have HRR := Lib.hid hRR
    have BX := hide (show ∀ W, Below W0.heap.size W0 W → (Below W0.heap.size W0 W ∧ W.cell? ⟨w.heap.size, 0, none⟩ = some (.int .i64 F.p) ∧ W.cell? ⟨w.heap.size, 1, none⟩ = some (.int .i64 F.k) ∧ W.cell? ⟨w.heap.size, 2, none⟩ = some (.slice a F.poly.length c) ∧ W.cell? ⟨w.heap.size, 3, none⟩ = some (.slice ra m.length rc)) from fun W h => ⟨h, (k0.below h k0.lt).cell 0, (k0.below h k0.lt).cell 1, (k0.below h k0.lt).cell 2, (k0.below h k0.lt).cell 3⟩)
    clear hD hRR hC hdr hk hR hL
    have f0 := k0.cell 0
    have f1 := k0.cell 1
    have f2 := k0.cell 2
    have f3 := k0.cell 3
    go_enter Try.func27, Try.ntmps27
    go_upto_region 1 with fail
    rw [← HW.out]
    go_wp2_with fail
    refine (unhide HD).mono ?_
    rintro e w1 ⟨rfl, b1⟩
    have k1 := k0.below b1 k0.lt
    clear f0 f1 f2 f3
    have f0 := k1.cell 0
    have f1 := k1.cell 1
    have f2 := k1.cell 2
    have f3 := k1.cell 3
    have bb1 := b0.trans (b1.mono (Nat.le_of_lt sk0))
    go_upto_region 4 with fail
    go_region_held3 (fun W => Below W0.heap.size W0 W ∧ W.cell? ⟨w.heap.size, 0, none⟩ = some (.int .i64 F.p) ∧ W.cell? ⟨w.heap.size, 1, none⟩ = some (.int .i64 F.k) ∧ W.cell? ⟨w.heap.size, 2, none⟩ = some (.slice a F.poly.length c) ∧ W.cell? ⟨w.heap.size, 3, none⟩ = some (.slice ra m.length rc))
      (first | exact (unhide BX) _ b1.drew | exact (unhide BX) _ (by assumption))
      (first
        | (go_at_call 108; refine (unhide HL _ ?_).mono ?_; exact And.left (by assumption); rintro e w2 ⟨rfl, b2⟩; have hB2 := Below.chain (a := W0) (And.left (by assumption)) b2)
        | (go_at_call 109; refine (sizeS_any _ _ _ _).mono ?_; rintro e w3 ⟨rfl, rfl⟩))
    go_wp2
    go_ret2
    rw [HRR.out]
    exact ⟨by rw [hRb]; rfl, b0.trans (hB2.mono (Nat.le_of_lt sk0))⟩
end Go.Proofs.Ytgmgpcaahanmiaa

