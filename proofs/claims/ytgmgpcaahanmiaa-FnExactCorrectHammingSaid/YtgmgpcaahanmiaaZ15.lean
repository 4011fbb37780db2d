/-
  Walks: ReedSolomon, on both sides. Printed by gen_rs2.py.
-/
import Derived.BigQuiet
import Derived.BigRegion
import Derived.ChangeOld
import Derived.Deep.DeepCutAuto
import Derived.Deep.DeepMust
import Derived.Deep.DrawnRows
import Derived.Deep.Draws
import Derived.Deep.OwnRows
import Derived.Deep.QuietTactic
import Derived.Deep.RegionHeld3
import Derived.Deep.Slices
import Derived.IntWalk
import Derived.Laws.Rows
import Derived.Lib.Hide
import Derived.Maps.AppendAt
import Derived.OpenShut
import Derived.OwnWalk
import Derived.ProofKit
import Derived.ShutString
import Derived.StillTailTactics
import Derived.Test.YtgmgpcaahanmiaaProg
import Derived.Test.YtgmgpcaahanmiaaRows
import Derived.WalkKit
import Derived.WalkLawsBesides
import Derived.WalkSpells
import Derived.Test.YtgmgpcaahanmiaaZ10
import Derived.Test.YtgmgpcaahanmiaaZ14
set_option linter.unusedVariables false
set_option linter.unusedSimpArgs false
namespace Go.Proofs.Ytgmgpcaahanmiaa
open Go.RowKit
attribute [local go_sem ↓] Go.wp_at_zero Go.wp_at_succ

def unit (k i : Nat) : List Int := (zeros k).set i 1
theorem unit_len (k i : Nat) : (unit k i).length = k := by rw [unit, List.length_set, zeros_len]
theorem unit_el (k i : Nat) : ∀ c ∈ unit k i, 0 ≤ c ∧ c ≤ 1000000 := by
  intro c hc
  rcases List.mem_or_eq_of_mem_set hc with h | h
  · rw [zeros, List.mem_replicate] at h; omega
  · omega
def rsRows (F : FD) (k n m : Nat) : List (List Int) := (List.range m).map fun i => vals F (unit k i) n
theorem rsRows_len (F : FD) (k n m : Nat) : (rsRows F k n m).length = m := by simp [rsRows]
theorem rsRows_succ (F : FD) (k n m : Nat) : rsRows F k n (m + 1) = rsRows F k n m ++ [vals F (unit k m) n] := by simp [rsRows, List.range_succ]
theorem vals_el {F : FD} (ok : F.Ok) (msg : List Int) (n : Nat) : ∀ x ∈ vals F msg n, 0 ≤ x ∧ x < F.n := by
  intro x hx
  obtain ⟨i, _, rfl⟩ := List.mem_map.1 hx
  cases msg with
  | nil => exact ⟨Int.le_refl _, by have := ok.n_bd; show (0 : Int) < _; omega⟩
  | cons c cs =>
    have h := lin_range (show 0 < F.p by have := ok.p2; omega) 1 F.k (mulF F.p F.k F.poly (valF F i cs) i) c
    rw [ok.n_eq] at h
    exact h
theorem rsRows_Mat {F : FD} (ok : F.Ok) (k n m : Nat) : F.Mat n (rsRows F k n m) := by
  intro xs hx
  obtain ⟨i, _, rfl⟩ := List.mem_map.1 hx
  exact ⟨vals_len _ _ _, vals_el ok _ _⟩
theorem fdOf_good {q : Int} (h : isField q = true) : (fdOf q).Good := by
  obtain ⟨ok, hq, hs⟩ := fdOf_ok h
  exact ⟨ok, by rw [hq]; exact hs⟩
def rsRes (q k n : Int) : Int × Int × List Int × List (List Int) × Int :=
  if rsCode q k n = 0 then mkC (fdOf q) (form (fdOf q) (rsRows (fdOf q) k.toNat n.toNat k.toNat) n.toNat) else (0, 0, [], [], rsCode q k n)
theorem rsCode_zero {q k n : Int} (h : rsCode q k n = 0) : isField q = true ∧ 2 ≤ q ∧ q ≤ 64 ∧ 1 ≤ n ∧ n ≤ 32 ∧ 1 ≤ k ∧ k ≤ 8 ∧ k ≤ n ∧ capTo q 4096 k.toNat ≤ 4096 := by
  unfold rsCode at h
  by_cases hl : lenOk q n = true
  · obtain ⟨hf, h2, h64, hn1, hn2⟩ := lenOk_true hl
    rw [if_pos hl] at h
    by_cases hk : inB k 1 n = true
    · obtain ⟨hk1, hk2⟩ := inB_true.1 hk
      rw [if_pos hk] at h
      by_cases h8 : 8 < k
      · rw [if_pos h8] at h; omega
      · rw [if_neg h8] at h
        by_cases hc : 4096 < capTo q 4096 k.toNat
        · rw [if_pos hc] at h; omega
        · exact ⟨hf, h2, h64, hn1, hn2, hk1, by omega, hk2, by omega⟩
    · rw [if_neg hk] at h; omega
  · rw [if_neg hl] at h; omega
set_option maxRecDepth 100000 in
set_option maxHeartbeats 1600000 in
theorem implRS_any (q k n : Int) (w : World) (e0 : I64 k) : Calls Try.prog 26 #[.int .i64 q, .int .i64 k, .int .i64 n] w (ResC w (rsRes q k n)) := by
  obtain ⟨W0, hHW⟩ : ∃ z, z = w.alloc (.cells #[.int .i64 0, .int .i64 0, .slice none 0 0, .slice none 0 0] 37) := ⟨_, rfl⟩
  have b0 : Below w.heap.size w W0 := by rw [hHW]; exact (Below.refl _ _).alloc (Nat.le_refl _) _
  have k0 : Blk W0 w.heap.size 37 #[.int .i64 0, .int .i64 0, .slice none 0 0, .slice none 0 0] := by rw [hHW]; exact Blk.new _ _ _ rfl
  have sk0 : w.heap.size < W0.heap.size := k0.lt
  have HW := Lib.hid hHW
  clear hHW
  have hL := polynomialCode_any q k n W0 e0
  unfold rsRes
  obtain ⟨c, hc⟩ : ∃ c, rsCode q k n = c := ⟨_, rfl⟩
  rw [hc] at hL ⊢
  by_cases h0 : c = 0
  ·
    subst h0
    obtain ⟨hf, h2, h64, hn1, hn2, hk1, hk2, hkn, hcap⟩ := rsCode_zero hc
    rw [if_pos rfl]
    have hG := fdOf_good hf
    have ok := hG.ok
    obtain ⟨K, rfl⟩ := Int.eq_ofNat_of_zero_le (show 0 ≤ k by omega)
    obtain ⟨N, rfl⟩ := Int.eq_ofNat_of_zero_le (show 0 ≤ n by omega)
    rw [Int.toNat_natCast, Int.toNat_natCast]
    generalize fdOf q = F at hL hG ok ⊢
    have HL := hide hL
    have hmk := fun W => run_make_row' (P := Try.prog) 22 2 (.int .i64 0) 8 Try.underlying22 Try.info_i64 rfl .i64 .i64 K (by omega) (by omega) W
    clear hL hc hcap hf e0
    go_enter Try.func26, Try.ntmps26
    go_wp2_with fail
    rw [← HW.out]
    refine (unhide HL).mono ?_
    rintro e w1 ⟨v1, rfl, o1, b1⟩
    rw [if_pos rfl, if_pos rfl]
    rw [if_pos rfl] at o1
    obtain ⟨a1, c1, rfl, r1, _⟩ := o1.form
    obtain ⟨W1, hHF⟩ : ∃ z, z = w1.alloc (.cells #[.int .i64 F.p, .int .i64 F.k, .slice a1 F.poly.length c1] 34) := ⟨_, rfl⟩
    have bF : Below w1.heap.size w1 W1 := by rw [hHF]; exact (Below.refl _ _).alloc (Nat.le_refl _) _
    have kF : Blk W1 w1.heap.size 34 #[.int .i64 F.p, .int .i64 F.k, .slice a1 F.poly.length c1] := by rw [hHF]; exact Blk.new _ _ _ rfl
    have skF : w1.heap.size < W1.heap.size := kF.lt
    have HF := Lib.hid hHF
    clear hHF
    have hR1 := r1.below bF
    have b1x := Below.chain b1 bF
    have hb1 := b0.trans (b1x.mono (Nat.le_of_lt sk0))
    have k1 := k0.below b1x k0.lt
    have z1 := b1x.size
    have z1' : w.heap.size ≤ W1.heap.size := by omega
    clear r1 o1 b1 bF
    go_upto_region 2 with fail
    rw [← HF.out]
    go_wp2_with fail
    go_loopw [10, 25] (fun v iv wr => ∃ m : Nat, iv = .int .i64 m ∧ m ≤ K ∧ Hid (OwnS wr W1.heap.size v (rsRows F K N m)) ∧ Below W1.heap.size W1 wr) (fun _ iv _ => K - (intOf iv).toNat)
    case atStart => exact ⟨0, rfl, Nat.zero_le _, OwnS.nil _ _, Below.refl _ _⟩
    case round =>
      obtain ⟨m, rfl, hm, ho, hb⟩ := hrel
      have hsz := hb.size
      by_cases hmk' : m < K
      ·
        have hml : (rsRows F K N m).length = m := rsRows_len _ _ _ _
        have HML := Lib.hid hml
        clear hml
        go_upto_region 9 with fail
        obtain ⟨W2, hW2⟩ : ∃ z, z = wr.alloc (.cells (madeCells #[.int .i64 0] K) 2) := ⟨_, rfl⟩
        have oz : Own W2 wr.heap.size (.slice (some ⟨wr.heap.size, 0, none⟩) K K) (zeros K) := by rw [hW2]; exact Own.zeros wr (Nat.le_refl _) (by omega)
        have bz : Below wr.heap.size wr W2 := by rw [hW2]; exact (Below.refl _ _).alloc (Nat.le_refl _) _
        have oc := oz.cell (j := m) (by rw [zeros_len]; exact hmk')
        have of_ := oz.frozen m
        have ou := (oz.set m 1).1
        have bu : Below wr.heap.size wr (W2.setCell ⟨wr.heap.size, m, none⟩ (.int .i64 1)) := bz.setCell (Nat.le_refl _) _
        rw [← hW2]
        clear hW2 oz bz
        go_upto_region 10 with fail
        obtain ⟨W3, hW3⟩ : ∃ z, z = W2.setCell ⟨wr.heap.size, m, none⟩ (.int .i64 1) := ⟨_, rfl⟩
        rw [← hW3] at ou bu ⊢
        have s3 := bu.size
        clear hW3 oc of_
        have hb3 := hb.trans (bu.mono hsz)
        have hu : (unit K m).length = K := unit_len K m
        have hv := polynomialWord_any F a1 c1 (some ⟨wr.heap.size, 0, none⟩) K (unit K m) N W3 (hR1.below hb3) ok ou.rd (by omega) (by rw [hu]; omega) (unit_el K m)
        rw [hu] at hv
        have HV := hide hv
        have kF3 := kF.below hb3 kF.lt
        have e0 := kF3.cell 0
        have e1 := kF3.cell 1
        have e2 := kF3.cell 2
        clear hv hu ou
        go_wp2_with fail
        refine (unhide HV).mono ?_
        rintro e w4 ⟨v4, rfl, o4, b4⟩
        obtain ⟨a4, c4, rfl, _, _⟩ := o4.form
        clear e0 e1 e2
        have hb4 := hb3.trans (b4.mono (by omega))
        have s4 := b4.size
        have HRS := Lib.hid (rsRows_succ F K N m)
        have hH := (ho.out.toH.belw bu (Nat.le_refl _)).belw b4 s3
        go_wp2_with (at_builtin; refine wpList_append_row rfl (.tmp 33) (.tmp 38) rfl (v := u10) rfl (hH.belw ((Below.refl _ _).alloc (Nat.le_refl _) _) (by omega)) _ rfl ((Blk.new w4 22 #[.slice a4 (vals F (unit K m) N).length c4] rfl).cell 0) ((o4.alloc _).mono (Nat.le_trans s3 (Nat.le_refl _))) hsz (by simp; omega) (by rw [HML.out]; omega) ?_; intro v2 w2 o2 g2 _)
        go_roundw
        case rel =>
          refine ⟨m + 1, by go_num, by omega, ?_, Below.stepS (hb4.alloc (by omega) _) g2 (hH.belw ((Below.refl _ _).alloc (Nat.le_refl _) _) (by omega)).own (Nat.le_refl _) (by simp; omega)⟩
          show OwnS _ _ _ _
          rw [HRS.out]
          exact o2
        case measure => simp only [intOf]; omega
      ·
        have hme : m = K := by omega
        have HE := Lib.hid hme
        clear hme
        have rsM := rsRows_Mat (F := F) ok K N K
        have o5 := ho.out
        rw [HE.out] at o5
        have hrl := rsRows_len F K N K
        obtain ⟨ra, rc, e5, r5⟩ := o5.form
        obtain ⟨rows, hrows⟩ : ∃ rows, rows = rsRows F K N K := ⟨_, rfl⟩
        rw [← hrows] at rsM o5 hrl e5 r5 ⊢
        subst e5
        have hCo := codeOf_any F a1 c1 ra rc rows N wr (hR1.below hb) hG r5 (by omega) rsM
        have HCO := hide hCo
        have HRL := Lib.hid hrl
        have HROWS := Lib.hid hrows
        have kFr := kF.below hb kF.lt
        have e0 := kFr.cell 0
        have e1 := kFr.cell 1
        have e2 := kFr.cell 2
        clear hCo hrows hrl rsM
        go_wp2_with fail
        refine (unhide HCO).mono ?_
        rintro e w4 ⟨v4, u4, rfl, o4, b4⟩
        clear e0 e1 e2
        obtain ⟨rr, hrr⟩ : ∃ rr, rr = mkC F (form F rows N) := ⟨_, rfl⟩
        rw [← hrr] at o4 ⊢
        obtain ⟨rp, rd, rx, ry, rz⟩ := rr
        simp only [] at o4 ⊢
        obtain ⟨a4, c4, p4, d4, rfl, rfl, _, _⟩ := o4.form
        have z4 := b4.size
        have HRR := Lib.hid hrr
        have hb4 := hb1.trans ((hb.trans (b4.mono (by omega))).mono z1')
        have k4 := (k1.below hb k1.lt).below b4 (by have := k1.lt; omega)
        have f0 := k4.cell 0
        have f1 := k4.cell 1
        have f2 := k4.cell 2
        have f3 := k4.cell 3
        have g0 := k4.frozen 0
        have g1 := k4.frozen 1
        have g2 := k4.frozen 2
        have g3 := k4.frozen 3
        clear hrr
        go_wp2
        have p3 : w.heap.size < wr.heap.size := by omega
        refine bodyPost_ret (results_cell_tmp_row rfl _ _ w.heap.size 37 #[.int .i64 rp, .int .i64 rd, .slice a4 rx.length c4, .slice p4 ry.length d4] _ rfl (k4.b4.store _ _ _ _) Try.underlying37 rfl (by kernel_rfl)) rfl ?_
        show ResC w (mkC F (form F (rsRows F K N K) N)) _ _
        rw [← HROWS.out, ← HRR.out]
        refine ⟨_, _, rfl, ?_, Below.set4 hb4 (Nat.le_refl _) _ _ _ _⟩
        exact ((((o4.storeBelow p3 _).storeBelow p3 _).storeBelow p3 _).storeBelow p3 _).mono (by omega)
  ·
    rw [if_neg h0]
    have hcn : (c != 0) = true := by rw [bne_iff_ne]; exact h0
    have h0' := hide h0
    have HL := hide hL
    clear hL h0 hc
    go_enter Try.func26, Try.ntmps26
    go_wp2_with fail
    rw [← HW.out]
    refine (unhide HL).mono ?_
    rintro e w1 ⟨v1, rfl, o1, b1⟩
    rw [if_neg (unhide h0'), if_neg (unhide h0')]
    rw [if_neg (unhide h0')] at o1
    obtain ⟨a1, c1, rfl, r1, _⟩ := o1.form
    obtain ⟨W1, hHF⟩ : ∃ z, z = w1.alloc (.cells #[.int .i64 0, .int .i64 0, .slice a1 0 c1] 34) := ⟨_, rfl⟩
    have bF : Below w1.heap.size w1 W1 := by rw [hHF]; exact (Below.refl _ _).alloc (Nat.le_refl _) _
    have kF : Blk W1 w1.heap.size 34 #[.int .i64 0, .int .i64 0, .slice a1 0 c1] := by rw [hHF]; exact Blk.new _ _ _ rfl
    have skF : w1.heap.size < W1.heap.size := kF.lt
    have HF := Lib.hid hHF
    clear hHF
    have b1x := Below.chain b1 bF
    have hb1 := b0.trans (b1x.mono (Nat.le_of_lt sk0))
    have k1 := k0.below b1x k0.lt
    go_upto_region 2 with fail
    rw [← HF.out]
    have f0 := k1.cell 0
    have f1 := k1.cell 1
    have f2 := k1.cell 2
    have f3 := k1.cell 3
    have g0 := k1.frozen 0
    have g1 := k1.frozen 1
    have g2 := k1.frozen 2
    have g3 := k1.frozen 3
    go_wp2
    refine bodyPost_ret (results_cell_tmp_row rfl _ _ w.heap.size 37 #[.int .i64 0, .int .i64 0, .slice none 0 0, .slice none 0 0] _ rfl (k1.b4.store _ _ _ _) Try.underlying37 rfl (by kernel_rfl)) rfl ?_
    exact ⟨_, _, rfl, OwnC.nil _ _, Below.set4 hb1 (Nat.le_refl _) _ _ _ _⟩
end Go.Proofs.Ytgmgpcaahanmiaa

