/-
  Walks: weights of words, and their numbers, on both sides.
-/
import Derived.BigQuiet
import Derived.BigRegion
import Derived.ChangeOld
import Derived.Deep.DeepCutAuto
import Derived.Deep.DeepMust
import Derived.Deep.DrawnRows
import Derived.Deep.Draws
import Derived.Deep.OwnRows
import Derived.Deep.QuietTactic
import Derived.Deep.RegionHeld3
import Derived.Deep.Slices
import Derived.IntWalk
import Derived.Laws.Rows
import Derived.Lib.Hide
import Derived.Maps.AppendAt
import Derived.OpenShut
import Derived.OwnWalk
import Derived.ProofKit
import Derived.ShutString
import Derived.StillTailTactics
import Derived.Test.YtgmgpcaahanmiaaProg
import Derived.Test.YtgmgpcaahanmiaaRows
import Derived.WalkKit
import Derived.WalkLawsBesides
import Derived.WalkSpells
import Derived.Test.YtgmgpcaahanmiaaZ29
set_option linter.unusedVariables false
set_option linter.unusedSimpArgs false
namespace Go.Proofs.Ytgmgpcaahanmiaa
open Go.RowKit
attribute [local go_sem ↓] Go.wp_at_zero Go.wp_at_succ

set_option maxHeartbeats 800000 in
theorem weightOf_any (a : Option Addr) (c : Nat) (xs : List Int) (w : World) (hx : Rd w a xs) :
    Calls Try.prog 189 #[.slice a xs.length c] w fun e w' => e = .returned (.int .i64 (wt xs : Nat)) ∧ w = w' := by
  have hxl := hx.len
  go_enter Try.func189, Try.ntmps189
  go_wp2
  go_loopw [3, 8] (fun nv iv wr => ∃ (k y : Nat), iv = .int .i64 k ∧ nv = .int .i64 y ∧ k ≤ xs.length ∧ y ≤ k ∧ Hid (y = wtTo xs k) ∧ w = wr) (fun _ iv _ => xs.length - (intOf iv).toNat)
  case atStart => exact ⟨0, 0, rfl, rfl, Nat.zero_le _, Nat.le_refl _, rfl, rfl⟩
  case round =>
    obtain ⟨k, y, rfl, rfl, hk, hyk, hY, rfl⟩ := hrel
    by_cases hkl : k < xs.length
    · obtain ⟨b1, o1, rfl, _, hc⟩ := hx.at_ (by omega)
      have h1 := hc k hkl
      have hst : wtTo xs (k + 1) = if nth xs k = 0 then wtTo xs k else wtTo xs k + 1 := rfl
      obtain ⟨u, hu⟩ : ∃ u, u = nth xs k := ⟨_, rfl⟩
      rw [← hu] at h1 hst
      have HST := Lib.hid hst
      clear hc hu hst
      by_cases hn : u = 0
      · have hbn : (u != 0) = false := by rw [bne_eq_false_iff_eq]; exact hn
        have HN := Lib.hid hn
        clear hn
        go_wp2
        go_roundw
        case rel => exact ⟨k + 1, y, by go_num, rfl, by omega, by omega, by show _ = _; rw [HST.out, if_pos HN.out, hY.out], trivial⟩
        case measure => simp [intOf]; omega
      · have hbn : (u != 0) = true := by rw [bne_iff_ne]; exact hn
        have HN := hide hn
        clear hn
        go_wp2
        go_roundw
        case rel => exact ⟨k + 1, y + 1, by go_num, by go_num, by omega, by omega, by show _ = _; rw [HST.out, if_neg (unhide HN), hY.out], trivial⟩
        case measure => simp [intOf]; omega
    · have hke : k = xs.length := by omega
      have HE := Lib.hid hke
      clear hke
      go_wp2
      go_ret
      exact ⟨ret_int (by rw [hY.out, HE.out, wt]), rfl⟩

set_option maxHeartbeats 800000 in
theorem l18Weight_any (a : Option Addr) (c : Nat) (xs : List Int) (w : World) (hx : Rd w a xs) :
    Calls Try.prog 203 #[.slice a xs.length c] w fun e w' => e = .returned (.int .i64 (wt xs : Nat)) ∧ w = w' := by
  have hxl := hx.len
  go_enter Try.func203, Try.ntmps203
  go_wp2
  go_loopw [3, 4] (fun nv iv wr => ∃ (k y : Nat), iv = .int .i64 k ∧ nv = .int .i64 y ∧ k ≤ xs.length ∧ y ≤ k ∧ Hid (y = wtTo xs k) ∧ w = wr) (fun _ iv _ => xs.length - (intOf iv).toNat)
  case atStart => exact ⟨0, 0, rfl, rfl, Nat.zero_le _, Nat.le_refl _, rfl, rfl⟩
  case round =>
    obtain ⟨k, y, rfl, rfl, hk, hyk, hY, rfl⟩ := hrel
    by_cases hkl : k < xs.length
    · obtain ⟨b1, o1, rfl, _, hc⟩ := hx.at_ (by omega)
      have h1 := hc k hkl
      have hst : wtTo xs (k + 1) = if nth xs k = 0 then wtTo xs k else wtTo xs k + 1 := rfl
      obtain ⟨u, hu⟩ : ∃ u, u = nth xs k := ⟨_, rfl⟩
      rw [← hu] at h1 hst
      have HST := Lib.hid hst
      clear hc hu hst
      by_cases hn : u = 0
      · have hbn : (u != 0) = false := by rw [bne_eq_false_iff_eq]; exact hn
        have HN := Lib.hid hn
        clear hn
        go_wp2
        go_roundw
        case rel => exact ⟨k + 1, y, by go_num, rfl, by omega, by omega, by show _ = _; rw [HST.out, if_pos HN.out, hY.out], trivial⟩
        case measure => simp [intOf]; omega
      · have hbn : (u != 0) = true := by rw [bne_iff_ne]; exact hn
        have HN := hide hn
        clear hn
        go_wp2
        go_roundw
        case rel => exact ⟨k + 1, y + 1, by go_num, by go_num, by omega, by omega, by show _ = _; rw [HST.out, if_neg (unhide HN), hY.out], trivial⟩
        case measure => simp [intOf]; omega
    · have hke : k = xs.length := by omega
      have HE := Lib.hid hke
      clear hke
      go_wp2
      go_ret
      exact ⟨ret_int (by rw [hY.out, HE.out, wt]), rfl⟩

set_option maxRecDepth 100000 in
set_option maxHeartbeats 800000 in
/-- The length of a code. -/
theorem lengthOf_any (p d : Int) (a : Option Addr) (k c : Nat) (ra : Option Addr) (rc : Nat) (m : List (List Int)) (w : World) (hm : RdS w ra m) (h0 : 0 < m.length) :
    Calls Try.prog 108 #[.agg #[.int .i64 p, .int .i64 d, .slice a k c, .slice ra m.length rc]] w fun e w' => e = .returned (.int .i64 ((nthL m 0).length : Nat)) ∧ Below w.heap.size w w' := by
  obtain ⟨gb, ob, rfl, hgb, hcc⟩ := hm.at_ h0
  obtain ⟨ai, ci, h1, _⟩ := hcc 0 h0
  rw [Nat.add_zero] at h1
  obtain ⟨N, hN⟩ : ∃ N, N = (nthL m 0).length := ⟨_, rfl⟩
  rw [← hN] at h1 ⊢
  obtain ⟨W0, hHW⟩ : ∃ z, z = w.alloc (.cells #[.int .i64 p, .int .i64 d, .slice a k c, .slice (some ⟨gb, ob, none⟩) m.length rc] 37) := ⟨_, rfl⟩
  have b0 : Below w.heap.size w W0 := by rw [hHW]; exact (Below.refl _ _).alloc (Nat.le_refl _) _
  have k0 : Blk W0 w.heap.size 37 #[.int .i64 p, .int .i64 d, .slice a k c, .slice (some ⟨gb, ob, none⟩) m.length rc] := by rw [hHW]; exact Blk.new _ _ _ rfl
  have h1 := (b0.cell (p := ⟨gb, ob, none⟩) hgb).trans h1
  have f3 := k0.cell 3
  have HW := Lib.hid hHW
  clear hHW hN hcc hm
  go_enter Try.func108, Try.ntmps108
  go_upto_region 1 with fail
  rw [← HW.out]
  go_wp2_with fail
  refine (size_any _ _ _ _).mono ?_
  rintro e w1 ⟨rfl, rfl⟩
  go_wp2
  go_ret
  exact ⟨rfl, b0⟩

/-- The numbers of words of each weight. -/
def wts (F : FD) (n : Nat) (m : List (List Int)) : List Int := cntW (wordsTo F n m m.length) n (wordsTo F n m m.length).length
theorem wordsTo_el {F : FD} (ok : F.Ok) (n : Nat) (m : List (List Int)) {k : Nat} (hk : k < (wordsTo F n m m.length).length) : (nthL (wordsTo F n m m.length) k).length = n ∧ wt (nthL (wordsTo F n m m.length) k) ≤ n ∧ ∀ x ∈ nthL (wordsTo F n m m.length) k, 0 ≤ x ∧ x < F.n := by
  rw [wordsTo_len] at hk
  rw [wordsTo_nth F n m hk]
  have h1 := encTo_len F n m (hig k F.n m.length) m.length
  have h2 := wtTo_le (encTo F n m (hig k F.n m.length) m.length) (encTo F n m (hig k F.n m.length) m.length).length
  refine ⟨h1, ?_, encTo_el ok _ _ _ _⟩
  rw [wt]
  omega

set_option maxRecDepth 100000 in
set_option maxHeartbeats 3200000 in
theorem weightsOf_any (F : FD) (ap : Option Addr) (cp : Nat) (ra : Option Addr) (rc : Nat) (m : List (List Int)) (n : Nat) (w : World) (hR : Rd w ap F.poly) (hm : RdS w ra m) (hC : GC F n m) :
    Calls Try.prog 116 #[.agg #[.int .i64 F.p, .int .i64 F.k, .slice ap F.poly.length cp, .slice ra m.length rc]] w fun e w' => ∃ v, e = .returned v ∧ Own w' w.heap.size v (wts F n m) ∧ Below w.heap.size w w' := by
  have hm1 := hC.m1
  have hn32 := hC.n32
  have ok := hC.good.ok
  obtain ⟨_, hQ⟩ := hC.cap_eq
  rw [← wordsTo_len F n m m.length] at hQ
  obtain ⟨W0, hHW⟩ : ∃ z, z = w.alloc (.cells #[.int .i64 F.p, .int .i64 F.k, .slice ap F.poly.length cp, .slice ra m.length rc] 37) := ⟨_, rfl⟩
  have b0 : Below w.heap.size w W0 := by rw [hHW]; exact (Below.refl _ _).alloc (Nat.le_refl _) _
  have k0 : Blk W0 w.heap.size 37 #[.int .i64 F.p, .int .i64 F.k, .slice ap F.poly.length cp, .slice ra m.length rc] := by rw [hHW]; exact Blk.new _ _ _ rfl
  have sk0 : w.heap.size < W0.heap.size := k0.lt
  have HW := Lib.hid hHW
  clear hHW
  have hL := lengthOf_any F.p F.k ap F.poly.length cp ra rc m W0 (hm.below b0) hm1
  rw [hC.hn] at hL
  have hWO := fun W (h : Below w.heap.size w W) => wordsOf_any F ap cp ra rc m n W (hR.below h) (hm.below h) hC
  have hel := fun k hk => wordsTo_el ok n m (k := k) hk
  have hwt : wts F n m = cntW (wordsTo F n m m.length) n (wordsTo F n m m.length).length := rfl
  obtain ⟨wds, hwds⟩ : ∃ wds, wds = wordsTo F n m m.length := ⟨_, rfl⟩
  rw [← hwds] at hWO hel hwt hQ
  have hmk := fun W => run_make_row' (P := Try.prog) 22 2 (.int .i64 0) 8 Try.underlying22 Try.info_i64 rfl .i64 .i64 (n + 1) (by omega) (by omega) W
  have hcast : ((n + 1 : Nat) : Int) = (n : Int) + 1 := by omega
  have HL := hide hL
  have HWO := hide hWO
  have HEL := hide hel
  have HWT := Lib.hid hwt
  clear hL hWO hel hwt hwds hm hR
  have f0 := k0.cell 0
  have f1 := k0.cell 1
  have f2 := k0.cell 2
  have f3 := k0.cell 3
  go_enter Try.func116, Try.ntmps116
  go_upto_region 1 with fail
  rw [← HW.out]
  go_wp2_with fail
  refine (unhide HL).mono ?_
  rintro e w1 ⟨rfl, b1⟩
  have k1 := k0.below b1 k0.lt
  have bw1 := b0.trans (b1.mono (Nat.le_of_lt sk0))
  clear f0 f1 f2 f3
  rw [hcast] at hmk
  go_upto_region 2 with fail
  obtain ⟨W2, hW2⟩ : ∃ z, z = w1.alloc (.cells (madeCells #[.int .i64 0] (n + 1)) 2) := ⟨_, rfl⟩
  have oz : Own W2 w1.heap.size (.slice (some ⟨w1.heap.size, 0, none⟩) (n + 1) (n + 1)) (zeros (n + 1)) := by rw [hW2]; exact Own.zeros w1 (Nat.le_refl _) (by omega)
  have bz : Below w1.heap.size w1 W2 := by rw [hW2]; exact (Below.refl _ _).alloc (Nat.le_refl _) _
  rw [← hW2]
  clear hW2
  have OZ := Lib.hid oz
  have g12 := bz.size
  have g13 : w1.heap.size < W2.heap.size := World.block_lt_of_cell? W2 _ (oz.cell (j := 0) (by rw [zeros_len]; omega))
  have c12 := bw1.trans (bz.mono bw1.size)
  have z1 := bw1.size
  have k2 := k1.below bz k1.lt
  have f0 := k2.cell 0
  have f1 := k2.cell 1
  have f2 := k2.cell 2
  have f3 := k2.cell 3
  clear oz hmk
  go_wp2_with fail
  refine (unhide HWO W2 c12).mono ?_
  rintro e w3 ⟨v3, rfl, o3, b3⟩
  obtain ⟨av, cv, rfl, _⟩ := o3.form
  have OZ3 := Lib.hid (OZ.out.below b3 (Nat.le_refl _))
  have OH := Lib.hid o3.toH
  have bw3 := c12.trans (b3.mono c12.size)
  have z3 := b3.size
  clear o3 OZ f0 f1 f2 f3
  go_wp2_with fail
  go_loopw [13] (fun iv wr => ∃ k : Nat, iv = .int .i64 k ∧ k ≤ wds.length ∧ Hid (Own wr w1.heap.size (.slice (some ⟨w1.heap.size, 0, none⟩) (n + 1) (n + 1)) (cntW wds n k)) ∧ Hid (w3.grownBy wr (some w1.heap.size))) (fun iv _ => wds.length - (intOf iv).toNat)
  case atStart => exact ⟨0, rfl, Nat.zero_le _, OZ3.out, grown_refl _ _⟩
  case round =>
    obtain ⟨k, rfl, hk, ho, hg⟩ := hrel
    by_cases hkl : k < wds.length
    · have rw0 := (OH.out.kp ((Kp.refl w3 _ _).grown hg.out (fun q hq => by injection hq; omega) (Nat.le_refl _))).rd
      obtain ⟨gw, ow, rfl, _, hcw⟩ := rw0.at_ (by omega)
      obtain ⟨aw, cw, h1, hr⟩ := hcw k hkl
      have hel := unhide HEL k hkl
      have hst : cntW wds n (k + 1) = (cntW wds n k).set (wt (nthL wds k)) (nth (cntW wds n k) (wt (nthL wds k)) + 1) := rfl
      obtain ⟨wd, hwd⟩ : ∃ wd, wd = nthL wds k := ⟨_, rfl⟩
      rw [← hwd] at h1 hr hel hst
      have hwo := weightOf_any aw cw wd wr hr
      obtain ⟨t, ht⟩ : ∃ t, t = wt wd := ⟨_, rfl⟩
      rw [← ht] at hwo hel hst
      have htn := hel.2.1
      have hcl := cntW_len wds n k
      have cc := ho.out.cell (j := t) (by omega)
      have cf := ho.out.frozen t
      have hbd := cntW_bd wds n k t
      obtain ⟨x, hx⟩ : ∃ x, x = nth (cntW wds n k) t := ⟨_, rfl⟩
      rw [← hx] at cc hbd hst
      have HWE := hide hwo
      have HST := Lib.hid hst
      have hk2 : k ≤ 4096 := by omega
      clear hwo hst hx ht hwd hel hcl hcw hr rw0
      go_wp2_with fail
      refine (unhide HWE).mono ?_
      rintro e w4 ⟨rfl, rfl⟩
      go_wp2
      go_roundw
      case rel =>
        have hs := ho.out.set t (x + 1)
        refine ⟨k + 1, by go_num, by omega, ?_, hide (grown_trans_row hg.out hs.2)⟩
        show Own _ _ _ _
        rw [HST.out]
        exact hs.1
      case measure => simp only [intOf]; omega
    · have hke : k = wds.length := by omega
      have HE := Lib.hid hke
      clear hke
      go_wp2
      go_ret
      refine ⟨_, rfl, ?_, ?_⟩
      · have o := ho.out
        rw [HE.out, ← HWT.out] at o
        exact o.mono (by omega)
      · exact bw3.grown hg.out bw3.size (fun q hq => by injection hq; omega)

set_option maxRecDepth 100000 in
set_option maxHeartbeats 3200000 in
theorem l18Weights_any (g : Nat) (F : FD) (ra : Option Addr) (rc : Nat) (m : List (List Int)) (n : Nat) (w : World) (hF : PF w g F) (hc3 : w.cell? ⟨g, 3, none⟩ = some (.slice ra m.length rc)) (hm : RdS w ra m) (hC : GC F n m) :
    Calls Try.prog 132 #[.pointer (some ⟨g, 0, none⟩)] w fun e w' => ∃ v, e = .returned v ∧ Own w' w.heap.size v (wts F n m) ∧ Below w.heap.size w w' := by
  have hm1 := hC.m1
  have hn32 := hC.n32
  have hml := hm.len
  have ok := hC.good.ok
  obtain ⟨_, hQ⟩ := hC.cap_eq
  rw [← wordsTo_len F n m m.length] at hQ
  have hglt : g < w.heap.size := World.block_lt_of_cell? w _ hc3
  obtain ⟨gb, ob, rfl, hgb, hcc⟩ := hm.at_ hm1
  obtain ⟨ai0, ci0, h00, _⟩ := hcc 0 hm1
  rw [Nat.add_zero, hC.hn] at h00
  have hWO := fun W (h : Below w.heap.size w W) => l18Words_any g F (some ⟨gb, ob, none⟩) rc m n W (hF.below h) ((h.cell (p := ⟨g, 3, none⟩) hglt).trans hc3) (hm.below h) hC
  have hel := fun k hk => wordsTo_el ok n m (k := k) hk
  have hwt : wts F n m = cntW (wordsTo F n m m.length) n (wordsTo F n m m.length).length := rfl
  obtain ⟨wds, hwds⟩ : ∃ wds, wds = wordsTo F n m m.length := ⟨_, rfl⟩
  rw [← hwds] at hWO hel hwt hQ
  have hmk := fun W => run_make_row' (P := Try.prog) 22 2 (.int .i64 0) 8 Try.underlying22 Try.info_i64 rfl .i64 .i64 (n + 1) (by omega) (by omega) W
  have hcast : ((n + 1 : Nat) : Int) = (n : Int) + 1 := by omega
  rw [hcast] at hmk
  have HWO := hide hWO
  have HEL := hide hel
  have HWT := Lib.hid hwt
  clear hWO hel hwt hwds hm hcc hF
  go_enter Try.func132, Try.ntmps132
  go_upto_region 2 with fail
  obtain ⟨W2, hW2⟩ : ∃ z, z = w.alloc (.cells (madeCells #[.int .i64 0] (n + 1)) 2) := ⟨_, rfl⟩
  have oz : Own W2 w.heap.size (.slice (some ⟨w.heap.size, 0, none⟩) (n + 1) (n + 1)) (zeros (n + 1)) := by rw [hW2]; exact Own.zeros w (Nat.le_refl _) (by omega)
  have bz : Below w.heap.size w W2 := by rw [hW2]; exact (Below.refl _ _).alloc (Nat.le_refl _) _
  rw [← hW2]
  clear hW2
  have OZ := Lib.hid oz
  have g12 := bz.size
  have g13 : w.heap.size < W2.heap.size := World.block_lt_of_cell? W2 _ (oz.cell (j := 0) (by rw [zeros_len]; omega))
  clear oz hmk
  go_wp2_with fail
  refine (unhide HWO W2 bz).mono ?_
  rintro e w3 ⟨v3, rfl, o3, b3⟩
  obtain ⟨av, cv, rfl, _⟩ := o3.form
  have OZ3 := Lib.hid (OZ.out.below b3 (Nat.le_refl _))
  have OH := Lib.hid o3.toH
  have bw3 := bz.trans (b3.mono bz.size)
  have z3 := b3.size
  clear o3 OZ
  go_wp2_with fail
  go_loopw [5] (fun iv wr => ∃ k : Nat, iv = .int .i64 k ∧ k ≤ wds.length ∧ Hid (Own wr w.heap.size (.slice (some ⟨w.heap.size, 0, none⟩) (n + 1) (n + 1)) (cntW wds n k)) ∧ Hid (w3.grownBy wr (some w.heap.size))) (fun iv _ => wds.length - (intOf iv).toNat)
  case atStart => exact ⟨0, rfl, Nat.zero_le _, OZ3.out, grown_refl _ _⟩
  case round =>
    obtain ⟨k, rfl, hk, ho, hg⟩ := hrel
    by_cases hkl : k < wds.length
    · have rw0 := (OH.out.kp ((Kp.refl w3 _ _).grown hg.out (fun q hq => by injection hq; omega) (Nat.le_refl _))).rd
      obtain ⟨gw, ow, rfl, _, hcw⟩ := rw0.at_ (by omega)
      obtain ⟨aw, cw, h1, hr⟩ := hcw k hkl
      have hel := unhide HEL k hkl
      have hst : cntW wds n (k + 1) = (cntW wds n k).set (wt (nthL wds k)) (nth (cntW wds n k) (wt (nthL wds k)) + 1) := rfl
      obtain ⟨wd, hwd⟩ : ∃ wd, wd = nthL wds k := ⟨_, rfl⟩
      rw [← hwd] at h1 hr hel hst
      have hwo := l18Weight_any aw cw wd wr hr
      obtain ⟨t, ht⟩ : ∃ t, t = wt wd := ⟨_, rfl⟩
      rw [← ht] at hwo hel hst
      have htn := hel.2.1
      have hcl := cntW_len wds n k
      have cc := ho.out.cell (j := t) (by omega)
      have cf := ho.out.frozen t
      have hbd := cntW_bd wds n k t
      obtain ⟨x, hx⟩ : ∃ x, x = nth (cntW wds n k) t := ⟨_, rfl⟩
      rw [← hx] at cc hbd hst
      have HWE := hide hwo
      have HST := Lib.hid hst
      have hk2 : k ≤ 4096 := by omega
      clear hwo hst hx ht hwd hel hcl hcw hr rw0
      go_wp2_with fail
      refine (unhide HWE).mono ?_
      rintro e w4 ⟨rfl, rfl⟩
      go_wp2
      go_roundw
      case rel =>
        have hs := ho.out.set t (x + 1)
        refine ⟨k + 1, by go_num, by omega, ?_, hide (grown_trans_row hg.out hs.2)⟩
        show Own _ _ _ _
        rw [HST.out]
        exact hs.1
      case measure => simp only [intOf]; omega
    · have hke : k = wds.length := by omega
      have HE := Lib.hid hke
      clear hke
      go_wp2
      go_ret
      refine ⟨_, rfl, ?_, ?_⟩
      · have o := ho.out
        rw [HE.out, ← HWT.out] at o
        exact o.mono (by omega)
      · exact bw3.grown hg.out bw3.size (fun q hq => by injection hq; omega)
end Go.Proofs.Ytgmgpcaahanmiaa

/-
  Walks: WeightsOf and DistanceOf on both sides. Printed by gen_cw2.py.
-/
namespace Go.Proofs.Ytgmgpcaahanmiaa
open Go.RowKit
attribute [local go_sem ↓] Go.wp_at_zero Go.wp_at_succ
noncomputable def wtsRes (p d : Int) (xs : List Int) (m : List (List Int)) : List Int × Int := if okC p d xs m = true then (wts (fdR p d xs) (nthL m 0).length m, 0) else ([], 1)
/-- The distance of a code. -/
def distC (F : FD) (n : Nat) (m : List (List Int)) : Nat := leastD (wts F n m)
noncomputable def distRes (p d : Int) (xs : List Int) (m : List (List Int)) : Int × Int := if okC p d xs m = true then ((distC (fdR p d xs) (nthL m 0).length m : Int), 0) else (0, 1)
def ResI (w : World) (r : Int × Int) (e : Ending) (w' : World) : Prop := e = .returned (.tuple #[.int .i64 r.1, .int .i64 r.2]) ∧ Below w.heap.size w w'
theorem wts_len (F : FD) (n : Nat) (m : List (List Int)) : (wts F n m).length = n + 1 := cntW_len _ _ _
theorem GC.some_wt {F : FD} {n : Nat} {m : List (List Int)} (h : GC F n m) : ∃ d : Nat, 1 ≤ d ∧ d ≤ n ∧ nth (wts F n m) d ≠ 0 := by
  obtain ⟨j, h1, h2, h3⟩ := h.some_word
  refine ⟨_, h2, h3, ?_⟩
  have := cntW_pos (words := wordsTo F n m m.length) (n := n) (k := (wordsTo F n m m.length).length) (j := j) (by rw [wordsTo_len]; exact h1) h3
  rw [wts]
  omega
set_option maxRecDepth 100000 in
set_option maxHeartbeats 1600000 in
theorem implWT_any (p d : Int) (a : Option Addr) (c : Nat) (xs : List Int) (ra : Option Addr) (rc : Nat) (m : List (List Int)) (w : World) (hx : Rd w a xs) (hm : RdS w ra m) (ed : I64 d) : Calls Try.prog 33 #[.agg #[.int .i64 p, .int .i64 d, .slice a xs.length c, .slice ra m.length rc]] w (ResL w (wtsRes p d xs m)) := by
  have hml := hm.len
  generalize hR : wtsRes p d xs m = r
  obtain ⟨W0, hHW⟩ : ∃ z, z = w.alloc (.cells #[.int .i64 p, .int .i64 d, .slice a xs.length c, .slice ra m.length rc] 37) := ⟨_, rfl⟩
  have b0 : Below w.heap.size w W0 := by rw [hHW]; exact (Below.refl _ _).alloc (Nat.le_refl _) _
  have k0 : Blk W0 w.heap.size 37 #[.int .i64 p, .int .i64 d, .slice a xs.length c, .slice ra m.length rc] := by rw [hHW]; exact Blk.new _ _ _ rfl
  have sk0 : w.heap.size < W0.heap.size := k0.lt
  have HW := Lib.hid hHW
  clear hHW
  have hV := implVC_any p d a c xs ra rc m W0 (hx.below b0) (hm.below b0) ed
  cases hk : okC p d xs m with
  | false =>
    have HN := Lib.hid (show r = ([], 1) by rw [← hR, wtsRes, hk]; rfl)
    rw [hk] at hV
    have HV := hide hV
    clear hV hk hR
    have f0 := k0.cell 0
    have f1 := k0.cell 1
    have f2 := k0.cell 2
    have f3 := k0.cell 3
    go_enter Try.func33, Try.ntmps33
    go_upto_region 1 with fail
    rw [← HW.out]
    go_wp2_with fail
    refine (unhide HV).mono ?_
    rintro e w1 ⟨rfl, b1⟩
    have k1 := k0.below b1 k0.lt
    clear f0 f1 f2 f3
    have f0 := k1.cell 0
    have f1 := k1.cell 1
    have f2 := k1.cell 2
    have f3 := k1.cell 3
    have bb1 := b0.trans (b1.mono (Nat.le_of_lt sk0))
    go_wp2
    go_ret2
    rw [HN.out]
    exact ⟨_, rfl, Own.nil _ _, bb1⟩
  | true =>
    obtain ⟨F, n, rfl, rfl, rfl, hC⟩ := okC_gc hk
    have ok := hC.good.ok
    obtain ⟨n2, n64⟩ := ok.n_bd
    have hm1 := hC.m1
    have hm0 : 0 < m.length := by omega
    have hm8 := hC.m8
    have hn1 := hC.n1
    have hn32 := hC.n32
    rw [hk] at hV
    have HV := hide hV
    have hRR : r = (wts F n m, 0) := by rw [← hR, wtsRes, hk, fdR_eq, hC.hn]; rfl
    clear hV hk hR
    have hW := fun W (h : Below W0.heap.size W0 W) => weightsOf_any F a c ra rc m n W ((hx.below b0).below h) ((hm.below b0).below h) hC
    have HWW := hide hW
    have HRR := Lib.hid hRR
    clear hW hRR hC
    have f0 := k0.cell 0
    have f1 := k0.cell 1
    have f2 := k0.cell 2
    have f3 := k0.cell 3
    go_enter Try.func33, Try.ntmps33
    go_upto_region 1 with fail
    rw [← HW.out]
    go_wp2_with fail
    refine (unhide HV).mono ?_
    rintro e w1 ⟨rfl, b1⟩
    have k1 := k0.below b1 k0.lt
    clear f0 f1 f2 f3
    have f0 := k1.cell 0
    have f1 := k1.cell 1
    have f2 := k1.cell 2
    have f3 := k1.cell 3
    have bb1 := b0.trans (b1.mono (Nat.le_of_lt sk0))
    go_wp2_with fail
    refine (unhide HWW w1 b1).mono ?_
    rintro e w2 ⟨v, rfl, o2, b2⟩
    go_wp2
    go_ret2
    rw [HRR.out]
    exact ⟨_, rfl, o2.mono bb1.size, bb1.trans (b2.mono bb1.size)⟩
set_option maxRecDepth 100000 in
set_option maxHeartbeats 1600000 in
theorem specDI_any (p d : Int) (a : Option Addr) (c : Nat) (xs : List Int) (ra : Option Addr) (rc : Nat) (m : List (List Int)) (w : World) (hx : Rd w a xs) (hm : RdS w ra m) : Calls Try.prog 47 #[.agg #[.int .i64 p, .int .i64 d, .slice a xs.length c, .slice ra m.length rc]] w (ResI w (distRes p d xs m)) := by
  have hml := hm.len
  generalize hR : distRes p d xs m = r
  obtain ⟨W0, hHW⟩ : ∃ z, z = w.alloc (.cells #[.int .i64 p, .int .i64 d, .slice a xs.length c, .slice ra m.length rc] 37) := ⟨_, rfl⟩
  have b0 : Below w.heap.size w W0 := by rw [hHW]; exact (Below.refl _ _).alloc (Nat.le_refl _) _
  have k0 : Blk W0 w.heap.size 37 #[.int .i64 p, .int .i64 d, .slice a xs.length c, .slice ra m.length rc] := by rw [hHW]; exact Blk.new _ _ _ rfl
  have sk0 : w.heap.size < W0.heap.size := k0.lt
  have HW := Lib.hid hHW
  clear hHW
  have hC0 : PC W0 w.heap.size p d a c xs ra rc m := ⟨⟨k0.cell 0, k0.cell 1, k0.cell 2, hx.below b0⟩, k0.cell 3, hm.below b0⟩
  have hV := l18Ok_any w.heap.size p d a c xs ra rc m W0 hC0
  cases hk : okC p d xs m with
  | false =>
    have HN := Lib.hid (show r = (0, 1) by rw [← hR, distRes, hk]; rfl)
    rw [hk] at hV
    have HV := hide hV
    clear hV hk hR hC0
    have f0 := k0.cell 0
    have f1 := k0.cell 1
    have f2 := k0.cell 2
    have f3 := k0.cell 3
    go_enter Try.func47, Try.ntmps47
    go_upto_region 1 with fail
    rw [← HW.out]
    go_wp2_with fail
    refine (unhide HV).mono ?_
    rintro e w1 ⟨rfl, b1⟩
    have k1 := k0.below b1 k0.lt
    clear f0 f1 f2 f3
    have f0 := k1.cell 0
    have f1 := k1.cell 1
    have f2 := k1.cell 2
    have f3 := k1.cell 3
    have bb1 := b0.trans (b1.mono (Nat.le_of_lt sk0))
    go_wp2
    go_ret2
    rw [HN.out]
    exact ⟨rfl, bb1⟩
  | true =>
    obtain ⟨F, n, rfl, rfl, rfl, hC⟩ := okC_gc hk
    have ok := hC.good.ok
    obtain ⟨n2, n64⟩ := ok.n_bd
    have hm1 := hC.m1
    have hm0 : 0 < m.length := by omega
    have hm8 := hC.m8
    have hn1 := hC.n1
    have hn32 := hC.n32
    rw [hk] at hV
    have HV := hide hV
    have hRR : r = ((distC F n m : Int), 0) := by rw [← hR, distRes, hk, fdR_eq, hC.hn]; rfl
    clear hV hk hR
    have hW := fun W (h : Below W0.heap.size W0 W) => l18Weights_any w.heap.size F ra rc m n W (hC0.below h).1.pf (hC0.below h).2.1 (hC0.below h).2.2 hC
    clear hC0
    obtain ⟨d0, hd1, hd2, hd3⟩ := hC.some_wt
    have hwl := wts_len F n m
    have hdc : distC F n m = leastD (wts F n m) := rfl
    obtain ⟨cs, hcs⟩ : ∃ cs, cs = wts F n m := ⟨_, rfl⟩
    rw [← hcs] at hW hd3 hwl hdc
    rw [hdc] at hRR
    have HWW := hide hW
    have HRR := Lib.hid hRR
    have HD3 := hide hd3
    have HWL := Lib.hid hwl
    clear hW hRR hC hcs hd3 hwl hdc
    have f0 := k0.cell 0
    have f1 := k0.cell 1
    have f2 := k0.cell 2
    have f3 := k0.cell 3
    go_enter Try.func47, Try.ntmps47
    go_upto_region 1 with fail
    rw [← HW.out]
    go_wp2_with fail
    refine (unhide HV).mono ?_
    rintro e w1 ⟨rfl, b1⟩
    have k1 := k0.below b1 k0.lt
    clear f0 f1 f2 f3
    have f0 := k1.cell 0
    have f1 := k1.cell 1
    have f2 := k1.cell 2
    have f3 := k1.cell 3
    have bb1 := b0.trans (b1.mono (Nat.le_of_lt sk0))
    go_wp2_with fail
    refine (unhide HWW w1 b1).mono ?_
    rintro e w2 ⟨v, rfl, o2, b2⟩
    obtain ⟨av, cv, rfl, r2, _⟩ := o2.form
    have bb2 := bb1.trans (b2.mono bb1.size)
    have R2 := hide r2
    have hcl : cs.length ≤ 33 := by rw [HWL.out]; omega
    clear o2 r2
    go_wp2_with fail
    go_loopw [5] (fun dv wr => ∃ d1 : Nat, dv = .int .i64 d1 ∧ 1 ≤ d1 ∧ d1 ≤ d0 ∧ Hid (∀ j, 1 ≤ j → j < d1 → nth cs j = 0) ∧ w2 = wr) (fun dv _ => d0 - (intOf dv).toNat)
    case atStart => exact ⟨1, rfl, Nat.le_refl _, hd1, fun j h1 h2 => by omega, rfl⟩
    case round =>
      obtain ⟨d1, rfl, h1, h2, hz, rfl⟩ := hrel
      have hlt : d1 < cs.length := by rw [HWL.out]; omega
      obtain ⟨g1, o1, rfl, _, hc⟩ := (unhide R2).at_ (by omega)
      have hc1 := hc d1 hlt
      obtain ⟨u, hu⟩ : ∃ u, u = nth cs d1 := ⟨_, rfl⟩
      rw [← hu] at hc1
      have HU := Lib.hid hu
      clear hc hu
      by_cases hn : u = 0
      · have hbn : (u == 0) = true := by rw [hn]; rfl
        have HN := Lib.hid hn
        clear hn
        have hne : d1 ≠ d0 := fun e => unhide HD3 (by rw [← e, ← HU.out, HN.out])
        go_wp2
        go_roundw
        case rel =>
          refine ⟨d1 + 1, by go_num, by omega, by omega, fun j a1 a2 => ?_, trivial⟩
          by_cases e : j = d1
          · rw [e, ← HU.out, HN.out]
          · exact hz.out j a1 (by omega)
        case measure => simp only [intOf]; omega
      · have hbn : (u == 0) = false := by rw [beq_eq_false_iff_ne]; exact hn
        have HN := hide hn
        clear hn
        have hld : leastD cs = d1 := leastD_hit h1 hlt (by rw [← HU.out]; exact unhide HN) hz.out
        have HLD := Lib.hid hld
        clear hld
        go_wp2
        go_ret2
        rw [HRR.out]
        show ResI w ((leastD cs : Int), 0) _ _
        rw [HLD.out]
        exact ⟨rfl, bb2⟩
set_option maxRecDepth 100000 in
set_option maxHeartbeats 1600000 in
theorem implDI_any (p d : Int) (a : Option Addr) (c : Nat) (xs : List Int) (ra : Option Addr) (rc : Nat) (m : List (List Int)) (w : World) (hx : Rd w a xs) (hm : RdS w ra m) (ed : I64 d) : Calls Try.prog 34 #[.agg #[.int .i64 p, .int .i64 d, .slice a xs.length c, .slice ra m.length rc]] w (ResI w (distRes p d xs m)) := by
  have hml := hm.len
  generalize hR : distRes p d xs m = r
  obtain ⟨W0, hHW⟩ : ∃ z, z = w.alloc (.cells #[.int .i64 p, .int .i64 d, .slice a xs.length c, .slice ra m.length rc] 37) := ⟨_, rfl⟩
  have b0 : Below w.heap.size w W0 := by rw [hHW]; exact (Below.refl _ _).alloc (Nat.le_refl _) _
  have k0 : Blk W0 w.heap.size 37 #[.int .i64 p, .int .i64 d, .slice a xs.length c, .slice ra m.length rc] := by rw [hHW]; exact Blk.new _ _ _ rfl
  have sk0 : w.heap.size < W0.heap.size := k0.lt
  have HW := Lib.hid hHW
  clear hHW
  have hV := implVC_any p d a c xs ra rc m W0 (hx.below b0) (hm.below b0) ed
  cases hk : okC p d xs m with
  | false =>
    have HN := Lib.hid (show r = (0, 1) by rw [← hR, distRes, hk]; rfl)
    rw [hk] at hV
    have HV := hide hV
    clear hV hk hR
    have f0 := k0.cell 0
    have f1 := k0.cell 1
    have f2 := k0.cell 2
    have f3 := k0.cell 3
    go_enter Try.func34, Try.ntmps34
    go_upto_region 1 with fail
    rw [← HW.out]
    go_wp2_with fail
    refine (unhide HV).mono ?_
    rintro e w1 ⟨rfl, b1⟩
    have k1 := k0.below b1 k0.lt
    clear f0 f1 f2 f3
    have f0 := k1.cell 0
    have f1 := k1.cell 1
    have f2 := k1.cell 2
    have f3 := k1.cell 3
    have bb1 := b0.trans (b1.mono (Nat.le_of_lt sk0))
    go_wp2
    go_ret2
    rw [HN.out]
    exact ⟨rfl, bb1⟩
  | true =>
    obtain ⟨F, n, rfl, rfl, rfl, hC⟩ := okC_gc hk
    have ok := hC.good.ok
    obtain ⟨n2, n64⟩ := ok.n_bd
    have hm1 := hC.m1
    have hm0 : 0 < m.length := by omega
    have hm8 := hC.m8
    have hn1 := hC.n1
    have hn32 := hC.n32
    rw [hk] at hV
    have HV := hide hV
    have hRR : r = ((distC F n m : Int), 0) := by rw [← hR, distRes, hk, fdR_eq, hC.hn]; rfl
    clear hV hk hR
    have hW := fun W (h : Below W0.heap.size W0 W) => weightsOf_any F a c ra rc m n W ((hx.below b0).below h) ((hm.below b0).below h) hC
    obtain ⟨d0, hd1, hd2, hd3⟩ := hC.some_wt
    have hwl := wts_len F n m
    have hdc : distC F n m = leastD (wts F n m) := rfl
    obtain ⟨cs, hcs⟩ : ∃ cs, cs = wts F n m := ⟨_, rfl⟩
    rw [← hcs] at hW hd3 hwl hdc
    rw [hdc] at hRR
    have HWW := hide hW
    have HRR := Lib.hid hRR
    have HD3 := hide hd3
    have HWL := Lib.hid hwl
    clear hW hRR hC hcs hd3 hwl hdc
    have f0 := k0.cell 0
    have f1 := k0.cell 1
    have f2 := k0.cell 2
    have f3 := k0.cell 3
    go_enter Try.func34, Try.ntmps34
    go_upto_region 1 with fail
    rw [← HW.out]
    go_wp2_with fail
    refine (unhide HV).mono ?_
    rintro e w1 ⟨rfl, b1⟩
    have k1 := k0.below b1 k0.lt
    clear f0 f1 f2 f3
    have f0 := k1.cell 0
    have f1 := k1.cell 1
    have f2 := k1.cell 2
    have f3 := k1.cell 3
    have bb1 := b0.trans (b1.mono (Nat.le_of_lt sk0))
    go_wp2_with fail
    refine (unhide HWW w1 b1).mono ?_
    rintro e w2 ⟨v, rfl, o2, b2⟩
    obtain ⟨av, cv, rfl, r2, _⟩ := o2.form
    have bb2 := bb1.trans (b2.mono bb1.size)
    have R2 := hide r2
    have hcl : cs.length ≤ 33 := by rw [HWL.out]; omega
    clear o2 r2
    go_wp2_with fail
    go_loopw [5] (fun dv wr => ∃ d1 : Nat, dv = .int .i64 d1 ∧ 1 ≤ d1 ∧ d1 ≤ d0 ∧ Hid (∀ j, 1 ≤ j → j < d1 → nth cs j = 0) ∧ w2 = wr) (fun dv _ => d0 - (intOf dv).toNat)
    case atStart => exact ⟨1, rfl, Nat.le_refl _, hd1, fun j h1 h2 => by omega, rfl⟩
    case round =>
      obtain ⟨d1, rfl, h1, h2, hz, rfl⟩ := hrel
      have hlt : d1 < cs.length := by rw [HWL.out]; omega
      obtain ⟨g1, o1, rfl, _, hc⟩ := (unhide R2).at_ (by omega)
      have hc1 := hc d1 hlt
      obtain ⟨u, hu⟩ : ∃ u, u = nth cs d1 := ⟨_, rfl⟩
      rw [← hu] at hc1
      have HU := Lib.hid hu
      clear hc hu
      by_cases hn : u = 0
      · have hbn : (u == 0) = true := by rw [hn]; rfl
        have HN := Lib.hid hn
        clear hn
        have hne : d1 ≠ d0 := fun e => unhide HD3 (by rw [← e, ← HU.out, HN.out])
        go_wp2
        go_roundw
        case rel =>
          refine ⟨d1 + 1, by go_num, by omega, by omega, fun j a1 a2 => ?_, trivial⟩
          by_cases e : j = d1
          · rw [e, ← HU.out, HN.out]
          · exact hz.out j a1 (by omega)
        case measure => simp only [intOf]; omega
      · have hbn : (u == 0) = false := by rw [beq_eq_false_iff_ne]; exact hn
        have HN := hide hn
        clear hn
        have hld : leastD cs = d1 := leastD_hit h1 hlt (by rw [← HU.out]; exact unhide HN) hz.out
        have HLD := Lib.hid hld
        clear hld
        go_wp2
        go_ret2
        rw [HRR.out]
        show ResI w ((leastD cs : Int), 0) _ _
        rw [HLD.out]
        exact ⟨rfl, bb2⟩
end Go.Proofs.Ytgmgpcaahanmiaa

