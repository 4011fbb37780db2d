/-
  Walk: whether a vector is in the span of rows in echelon form, the program's.
-/
import Derived.BigQuiet
import Derived.BigRegion
import Derived.ChangeOld
import Derived.Deep.DeepCutAuto
import Derived.Deep.DeepMust
import Derived.Deep.DrawnRows
import Derived.Deep.Draws
import Derived.Deep.OwnRows
import Derived.Deep.QuietTactic
import Derived.Deep.RegionHeld3
import Derived.Deep.Slices
import Derived.IntWalk
import Derived.Laws.Rows
import Derived.Lib.Hide
import Derived.Maps.AppendAt
import Derived.OpenShut
import Derived.OwnWalk
import Derived.ProofKit
import Derived.ShutString
import Derived.StillTailTactics
import Derived.Test.YtgmgpcaahanmiaaProg
import Derived.Test.YtgmgpcaahanmiaaRows
import Derived.WalkKit
import Derived.WalkLawsBesides
import Derived.WalkSpells
import Derived.Test.YtgmgpcaahanmiaaZ2
import Derived.Test.YtgmgpcaahanmiaaZ26
import Derived.Test.YtgmgpcaahanmiaaZ28
set_option linter.unusedVariables false
set_option linter.unusedSimpArgs false
namespace Go.Proofs.Ytgmgpcaahanmiaa
open Go.RowKit
attribute [local go_sem ↓] Go.wp_at_zero Go.wp_at_succ

set_option maxRecDepth 100000 in
set_option maxHeartbeats 3200000 in
theorem inSpan_any (F : FD) (tv : Value) (ra : Option Addr) (rc : Nat) (rows : List (List Int)) (pa : Option Addr) (pc : Nat) (piv : List Int) (b : Option Addr) (cb : Nat) (v : List Int) (n : Nat) (w : World) (hT : Tabs w F tv) (hG : F.Good) (hx : RdS w ra rows) (hp : Rd w pa piv) (hy : Rd w b v) (hM : F.Mat n rows) (hn1 : 1 ≤ n) (hn : n ≤ 32) (hpl : piv.length ≤ rows.length) (hpb : ∀ j, j < piv.length → ∃ p : Nat, nth piv j = (p : Int) ∧ p < n) (hvl : v.length = n) (hv : ∀ x ∈ v, 0 ≤ x ∧ x < F.n) :
    Calls Try.prog 183 #[tv, .slice ra rows.length rc, .slice pa piv.length pc, .slice b n cb] w fun e w' => e = .returned (.bool (isZ (restTo F rows piv v piv.length))) ∧ Below w.heap.size w w' := by
  have hT0 := hT
  obtain ⟨aA, cA, aS, cS, aM, cM, aI, cI, rfl, tA, tS, tM, tI⟩ := hT
  have ok := hG.ok
  obtain ⟨n2, n64⟩ := ok.n_bd
  have hpll := hp.len
  have hxl := hx.len
  obtain ⟨W0, hHW⟩ : ∃ z, z = w.alloc (.cells #[.int .i64 F.n, .slice aA F.n cA, .slice aS F.n cS, .slice aM F.n cM, .slice aI F.n cI] 93) := ⟨_, rfl⟩
  have b0 : Below w.heap.size w W0 := by rw [hHW]; exact (Below.refl _ _).alloc (Nat.le_refl _) _
  have kT : Blk W0 w.heap.size 93 #[.int .i64 F.n, .slice aA F.n cA, .slice aS F.n cS, .slice aM F.n cM, .slice aI F.n cI] := by rw [hHW]; exact Blk.new _ _ _ rfl
  have skT : w.heap.size < W0.heap.size := kT.lt
  have HW := Lib.hid hHW
  clear hHW
  have hcl := clone_any b cb v W0 (hy.below b0)
  rw [hvl] at hcl
  have hrl := fun k => restTo_len F rows piv v k
  have hre := fun k => restTo_el ok piv (rows := rows) hv k
  rw [hvl] at hrl
  have hst : ∀ k, restTo F rows piv v (k + 1) = addTo F (restTo F rows piv v k) (nthL rows k) (F.sub 0 (nth (restTo F rows piv v k) (nth piv k).toNat)) n := fun k => by rw [restTo, hvl]
  have HCL := hide hcl
  have HX := hide (hx.below b0)
  have HP := hide (hp.below b0)
  have HMM := hide hM
  have HPB := hide hpb
  have HT := hide (hT0.below b0)
  have TS := hide (tS.below b0)
  have HRL := hide hrl
  have HRE := hide hre
  have HST := hide hst
  have h00 : restTo F rows piv v 0 = v := rfl
  have H00 := Lib.hid h00
  clear hcl hx hp hM hpb hT0 tA tS tM tI hrl hre hst hy hv hvl h00
  go_enter Try.func183, Try.ntmps183
  go_upto_region 1 with fail
  rw [← HW.out]
  go_wp2_with fail
  refine (unhide HCL).mono ?_
  rintro e w1 ⟨v1, rfl, o1, b1⟩
  obtain ⟨gr, c1, rfl, hgr, hgr1, hcr, hcr2⟩ := o1.at_len (by have := unhide HRL 0; rw [H00.out] at this; exact this) hn1
  have z1 := b1.size
  rw [← H00.out] at o1
  have O1 := Lib.hid o1
  clear o1
  go_wp2_with fail
  go_loopw [16] (fun iv wr => ∃ k : Nat, iv = .int .i64 k ∧ k ≤ piv.length ∧ Hid (Own wr W0.heap.size (.slice (some ⟨gr, 0, none⟩) n c1) (restTo F rows piv v k)) ∧ Hid (w1.grownBy wr (some gr))) (fun iv _ => piv.length - (intOf iv).toNat)
  case atStart => exact ⟨0, rfl, Nat.zero_le _, O1, hide (grown_refl _ _)⟩
  case round =>
    obtain ⟨k, rfl, hk, ho, hg⟩ := hrel
    have hbg : Below W0.heap.size W0 wr := b1.grown hg.out z1 (fun q hq => by injection hq; omega)
    by_cases hkl : k < piv.length
    · have kTr := kT.below hbg kT.lt
      obtain ⟨p, hp, hpn⟩ := unhide HPB k hkl
      obtain ⟨gp, op, rfl, _, hcp⟩ := ((unhide HP).below hbg).at_ (by omega)
      have hp1 := hcp k hkl
      rw [hp] at hp1
      have hkr : k < rows.length := by omega
      obtain ⟨gw, ow, rfl, hgw, hcw⟩ := (unhide HX).at_ (by omega)
      obtain ⟨ai, ci, hr0, hrr0⟩ := hcw k hkr
      have hmt := Mat_nth (unhide HMM) hkr
      rw [hmt.1] at hr0
      have hr1 := (hbg.cell (p := ⟨gw, ow + k, none⟩) hgw).trans hr0
      have hrr := hrr0.below hbg
      have hrl := unhide HRL k
      have hre := unhide HRE k
      have hst := unhide HST k
      rw [hp, Int.toNat_natCast] at hst
      have xc := ho.out.cell (j := p) (by rw [hrl]; exact hpn)
      have hxr := hre _ (nth_mem (k := p) (by rw [hrl]; exact hpn))
      obtain ⟨x, hx⟩ := Int.eq_ofNat_of_zero_le hxr.1
      rw [hx] at xc hxr hst
      have hxn : x < F.n := by omega
      have hDb := sub_bd ok 0 x
      obtain ⟨bS, oS, bs, os, cs, rfl, s1, s2⟩ := tab_at ((unhide TS).below hbg) (i := 0) (j := x) (by omega) hxn
      rw [show ((0 : Nat) : Int) = 0 from rfl] at s2
      obtain ⟨D, hD⟩ : ∃ D, D = F.sub 0 x := ⟨_, rfl⟩
      rw [← hD] at s2 hst hDb
      obtain ⟨rest, hrest⟩ : ∃ rest, rest = restTo F rows piv v k := ⟨_, rfl⟩
      rw [← hrest] at ho hrl hre hst
      have hat : Calls Try.prog 90 #[.agg #[.int .i64 F.n, .slice aA F.n cA, .slice (some ⟨bS, oS, none⟩) F.n cS, .slice aM F.n cM, .slice aI F.n cI], .slice (some ⟨gr, 0, none⟩) n c1, .slice ai n ci, .int .i64 D] wr.drew fun e w' => e = .returned (.tuple #[]) ∧ Own w' W0.heap.size (.slice (some ⟨gr, 0, none⟩) n c1) (addTo F rest (nthL rows k) D n) ∧ wr.drew.grownBy w' (some gr) := by
        have h := addTimes_any F _ W0 wr.drew W0.heap.size gr c1 ai ci rest (nthL rows k) D ok (unhide HT) hbg.drew (Nat.le_refl _) (by rw [hrl]; exact ho.out.drewN 1) (hrr.drewN 1) (fun q hq => by
          obtain ⟨b9, o9, e9, hb9, _⟩ := hrr0.at_ (by rw [hmt.1]; omega)
          rw [hq] at e9
          injection e9 with e9
          rw [e9]
          show b9 ≠ gr
          omega) (by rw [hrl, hmt.1]) hDb.1 hDb.2 hre hmt.2
        rw [hrl, hmt.1] at h
        exact h
      have HAT := hide hat
      have HST := Lib.hid hst
      have f0 := kTr.cell 0
      have f1 := kTr.cell 1
      have f2 := kTr.cell 2
      have f3 := kTr.cell 3
      have f4 := kTr.cell 4
      have hFn0 : 0 < F.n := by omega
      rw [Nat.add_zero] at s1
      clear hat hst hD hx hp hrest hcp hcw hrr hrr0 hr0 hmt hre hrl hxr hDb kTr
      go_wp2_with fail
      go_still_tail 16, (by kernel_rfl)
      change wpList _ _ _ _ _ wr.drew
      go_wp2_with fail
      refine (unhide HAT).mono ?_
      rintro e w5 ⟨rfl, o5, g5⟩
      go_wp2_with fail
      go_roundw
      case rel =>
        refine ⟨k + 1, by go_num, by omega, ?_, hide (grown_trans_row (grown_trans_row hg.out (grown_drew1 wr _)) g5)⟩
        show Own _ _ _ _
        rw [HST.out]
        exact o5
      case measure => simp only [intOf]; omega
    · have hke : k = piv.length := by omega
      have HE := Lib.hid hke
      have hz := isZero_any (some ⟨gr, 0, none⟩) c1 (restTo F rows piv v k) wr (by have h := ho.out.rd; exact h)
      rw [unhide HRL k, hke] at hz
      have HZ := hide hz
      clear hke hz
      go_wp2_with fail
      refine (unhide HZ).mono ?_
      rintro e w5 ⟨rfl, rfl⟩
      go_wp2
      go_ret
      exact ⟨rfl, b0.trans (hbg.mono (Nat.le_of_lt skT))⟩
end Go.Proofs.Ytgmgpcaahanmiaa

