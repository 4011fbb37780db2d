/-
  Proved: FnExactSameCode returns true for every input and leaves its arguments as they were. No condition.
-/
import Derived.Test.YtcdfabnhaephhaaSame
import Derived.Test.YtcdfabnhaephhaaOpen2
import Derived.Deep.RegionHeld3
import Derived.Deep.DeepCutAuto
import Derived.Deep.DrawnRows
namespace Go.Proofs.Ytcdfabnhaephhaa
open Go.RowKit
attribute [local go_sem ↓] Go.wp_at_zero Go.wp_at_succ

def wOf {B : Nat} {a b : World} (_ : Below B a b) : World := b

set_option maxHeartbeats 1600000 in
theorem lawSameCode (p d p' d' : Int) (a b ra rb : Option Addr) (n m c c' rc rc' : Nat) (xs ys : List Int) (xss yss : List (List Int)) (w : World)
    (hn : n = xs.length) (hnm : n ≤ maxLen) (hx : n ≤ 1048576 → Rd w a xs) (hl : Lens w ra (xss.map List.length)) (hr : total (xss.map List.length) ≤ 1048576 → RdS w ra xss)
    (hm : m = ys.length) (hmm : m ≤ maxLen) (hy : m ≤ 1048576 → Rd w b ys) (hl' : Lens w rb (yss.map List.length)) (hr' : total (yss.map List.length) ≤ 1048576 → RdS w rb yss) :
    Calls Try.prog 7 #[.agg #[.int .i64 p, .int .i64 d, .slice a n c, .slice ra xss.length rc], .agg #[.int .i64 p', .int .i64 d', .slice b m c', .slice rb yss.length rc']] w fun e w' => e = .returned (.bool true) ∧ Below w.heap.size w w' := by
  subst hn
  subst hm
  obtain ⟨w0, hw0⟩ : ∃ w0, w0 = (w.alloc (.cells #[.int .i64 p, .int .i64 d, .slice a xs.length c, .slice ra xss.length rc] 46)).alloc (.cells #[.int .i64 p', .int .i64 d', .slice b ys.length c', .slice rb yss.length rc'] 46) := ⟨_, rfl⟩
  have hb0 : Below w.heap.size w w0 := by rw [hw0]; exact ((Below.refl _ _).alloc (Nat.le_refl _) _).alloc (by simp) _
  have kA : Blk w0 w.heap.size 46 #[.int .i64 p, .int .i64 d, .slice a xs.length c, .slice ra xss.length rc] := by rw [hw0]; exact (Blk.new _ _ _ rfl).alloc _
  have kB : Blk w0 (w.heap.size + 1) 46 #[.int .i64 p', .int .i64 d', .slice b ys.length c', .slice rb yss.length rc'] := by rw [hw0]; exact Blk.new _ _ _ (by simp)
  have s0 : w0.heap.size = w.heap.size + 1 + 1 := by rw [hw0]; simp
  have HW := Lib.hid hw0
  clear hw0
  have hll : (xss.map List.length).length = xss.length := by simp
  have hll' : (yss.map List.length).length = yss.length := by simp
  have z1 := szCode_any p d a xs.length c ra rc (xss.map List.length) 1048576 w0 hnm (by omega) (by omega) (hl.below hb0)
  rw [hll] at z1
  have Z1 := hide z1
  have HLL := Lib.hid hll'
  clear z1 hll hll'
  go_enter Try.func7, Try.ntmps7
  go_wp2_with fail
  rw [← HW.out]
  refine (unhide Z1).mono ?_
  rintro e w1 ⟨rfl, b1⟩
  have hb1 := hb0.trans (b1.mono (by omega))
  by_cases h1 : ((xs.length + total (xss.map List.length) : Nat) : Int) ≤ 1048576
  · rw [left_yes h1]
    have kA1 := kA.below b1 (by omega)
    have kB1 := kB.below b1 (by omega)
    have f0 : w1.cell? ⟨w.heap.size + 1, 0, none⟩ = some (.int .i64 p') := kB1.cell 0
    have f1 : w1.cell? ⟨w.heap.size + 1, 1, none⟩ = some (.int .i64 d') := kB1.cell 1
    have f2 : w1.cell? ⟨w.heap.size + 1, 2, none⟩ = some (.slice b ys.length c') := kB1.cell 2
    have f3 : w1.cell? ⟨w.heap.size + 1, 3, none⟩ = some (.slice rb yss.length rc') := kB1.cell 3
    have z2 := szCode_any p' d' b ys.length c' rb rc' (yss.map List.length) (1048576 - ((xs.length + total (xss.map List.length) : Nat) : Int)) w1 hmm (by omega) (by omega) (hl'.below hb1)
    rw [HLL.out] at z2
    have Z2 := hide z2
    clear z2
    go_wp2_with fail
    refine (unhide Z2).mono ?_
    rintro e w2 ⟨rfl, b2⟩
    have hb2 := hb1.trans (b2.mono (by have := b1.size; omega))
    by_cases h2 : ((ys.length + total (yss.map List.length) : Nat) : Int) ≤ 1048576 - ((xs.length + total (xss.map List.length) : Nat) : Int)
    · rw [left_yes h2]
      have hx2 := (hx (by omega)).below hb2
      have hr2 := (hr (by omega)).below hb2
      have hy2 := (hy (by omega)).below hb2
      have hr2' := (hr' (by omega)).below hb2
      have kA2 := kA1.below b2 (by have := b1.size; omega)
      have kB2 := kB1.below b2 (by have := b1.size; omega)
      have s2 : w0.heap.size ≤ w2.heap.size := by have := b1.size; have := b2.size; omega
      clear hx hr hy hr' kA kB kA1 kB1 f0 f1 f2 f3 hl hl' hb0 hb1 HW b1 b2 Z1 Z2 HLL
      have boxes : ∀ (W : World), Below w2.heap.size w2 W → (Below w2.heap.size w2 W ∧ W.cell? ⟨w.heap.size, 0, none⟩ = some (.int .i64 p) ∧ W.cell? ⟨w.heap.size, 1, none⟩ = some (.int .i64 d) ∧ W.cell? ⟨w.heap.size, 2, none⟩ = some (.slice a xs.length c) ∧ W.cell? ⟨w.heap.size, 3, none⟩ = some (.slice ra xss.length rc) ∧
          W.cell? ⟨w.heap.size + 1, 0, none⟩ = some (.int .i64 p') ∧ W.cell? ⟨w.heap.size + 1, 1, none⟩ = some (.int .i64 d') ∧ W.cell? ⟨w.heap.size + 1, 2, none⟩ = some (.slice b ys.length c') ∧ W.cell? ⟨w.heap.size + 1, 3, none⟩ = some (.slice rb yss.length rc')) := fun _ h =>
        ⟨h, (kA2.below h kA2.lt).cell 0, (kA2.below h kA2.lt).cell 1, (kA2.below h kA2.lt).cell 2, (kA2.below h kA2.lt).cell 3, (kB2.below h kB2.lt).cell 0, (kB2.below h kB2.lt).cell 1, (kB2.below h kB2.lt).cell 2, (kB2.below h kB2.lt).cell 3⟩
      have BX := hide boxes
      clear boxes
      go_upto_region 8 with fail
      go_cut [6] (fun v6 wx => v6 = .bool (sameC p d xs xss p' d' ys yss) ∧ Below w2.heap.size w2 wx)
      case first =>
        go_region_held3 (fun W => Below w2.heap.size w2 W ∧ W.cell? ⟨w.heap.size, 0, none⟩ = some (.int .i64 p) ∧ W.cell? ⟨w.heap.size, 1, none⟩ = some (.int .i64 d) ∧ W.cell? ⟨w.heap.size, 2, none⟩ = some (.slice a xs.length c) ∧ W.cell? ⟨w.heap.size, 3, none⟩ = some (.slice ra xss.length rc) ∧
          W.cell? ⟨w.heap.size + 1, 0, none⟩ = some (.int .i64 p') ∧ W.cell? ⟨w.heap.size + 1, 1, none⟩ = some (.int .i64 d') ∧ W.cell? ⟨w.heap.size + 1, 2, none⟩ = some (.slice b ys.length c') ∧ W.cell? ⟨w.heap.size + 1, 3, none⟩ = some (.slice rb yss.length rc'))
          (first | exact (unhide BX) _ (Below.refl _ _) | exact (unhide BX) _ ((Below.refl _ _).drew) | exact (unhide BX) _ (by assumption))
          (first
            | (go_at_call_of 26 (Value.slice a xs.length c); refine (toCode_any p d a ra c rc xs xss _ ?_ ?_).mono ?_; exact hx2.below (And.left (by assumption)); exact hr2.below (And.left (by assumption)); rintro e W1 ⟨v1, u1, rfl, oc1, bb1⟩; obtain ⟨a1, c1, ra1, rc1, rfl, rfl, rd1, rds1⟩ := oc1.form; have hB1 := Below.chain (a := w2) (And.left (by assumption)) bb1)
            | (go_at_call_of 26 (Value.slice b ys.length c'); refine (toCode_any p' d' b rb c' rc' ys yss _ ?_ ?_).mono ?_; exact hy2.below (And.left (by assumption)); exact hr2'.below (And.left (by assumption)); rintro e W2 ⟨v2, u2, rfl, oc2, bb2⟩; obtain ⟨a2, c2, ra2, rc2, rfl, rfl, rd2, rds2⟩ := oc2.form; have hB2 := Below.chain (a := w2) (And.left (by assumption)) bb2)
            | (go_at_call 25; refine (specSameCode_any p d p' d' a1 a2 ra1 ra2 c1 c2 rc1 rc2 xs ys xss yss _ (rd1.below bb2) rd2 (rds1.below bb2) rds2).mono ?_; rintro e W3 ⟨rfl, bb3⟩; have hB3 := Below.chain hB2 bb3))
        go_wp2
        go_meet
        exact ⟨rfl, hB3⟩
      case rest =>
        obtain ⟨rfl, hbc⟩ := hcut
        have sz0 := hbc.size
        have f0 := ((unhide BX) _ hbc).2.1
        have f1 := ((unhide BX) _ hbc).2.2.1
        have f2 := ((unhide BX) _ hbc).2.2.2.1
        have f3 := ((unhide BX) _ hbc).2.2.2.2.1
        go_wp2_with fail
        refine (toCode_any p d a ra c rc xs xss _ (hx2.below hbc) (hr2.below hbc)).mono ?_
        rintro e w3 ⟨v3, u3, rfl, oc3, b3⟩
        obtain ⟨a3, c3, ra3, rc3, rfl, rfl, rd3, rds3⟩ := oc3.form
        have hb3 := Below.chain hbc b3
        have sz3 := b3.size
        obtain ⟨wA, hwA⟩ : ∃ wA, wA = w3.alloc (.cells #[.int .i64 p, .int .i64 d, .slice a3 xs.length c3, .slice ra3 xss.length rc3] 51) := ⟨_, rfl⟩
        have hbA : Below w2.heap.size w2 wA := by rw [hwA]; exact hb3.alloc (by omega) _
        have kX : Blk wA w3.heap.size 51 #[.int .i64 p, .int .i64 d, .slice a3 xs.length c3, .slice ra3 xss.length rc3] := by rw [hwA]; exact Blk.new _ _ _ rfl
        have bA : Below w3.heap.size w3 wA := by rw [hwA]; exact (Below.refl _ _).alloc (Nat.le_refl _) _
        have rdA := rd3.below bA
        have rdsA := rds3.below bA
        have sA : wA.heap.size = w3.heap.size + 1 := by rw [hwA]; simp
        have f4 := ((unhide BX) _ hbA).2.2.2.2.2.1
        have f5 := ((unhide BX) _ hbA).2.2.2.2.2.2.1
        have f6 := ((unhide BX) _ hbA).2.2.2.2.2.2.2.1
        have f7 := ((unhide BX) _ hbA).2.2.2.2.2.2.2.2
        rw [hwA] at f4 f5 f6 f7
        have HA := Lib.hid hwA
        clear hwA
        go_wp2_with fail
        rw [← HA.out]
        refine (toCode_any p' d' b rb c' rc' ys yss wA (hy2.below hbA) (hr2'.below hbA)).mono ?_
        rintro e w4 ⟨v4, u4, rfl, oc4, b4⟩
        obtain ⟨a4, c4, ra4, rc4, rfl, rfl, rd4, rds4⟩ := oc4.form
        have hb4 := Below.chain hbA b4
        have sz4 := b4.size
        obtain ⟨wB, hwB⟩ : ∃ wB, wB = w4.alloc (.cells #[.int .i64 p', .int .i64 d', .slice a4 ys.length c4, .slice ra4 yss.length rc4] 51) := ⟨_, rfl⟩
        have hbB : Below w2.heap.size w2 wB := by rw [hwB]; exact hb4.alloc (by omega) _
        have kY : Blk wB w4.heap.size 51 #[.int .i64 p', .int .i64 d', .slice a4 ys.length c4, .slice ra4 yss.length rc4] := by rw [hwB]; exact Blk.new _ _ _ rfl
        have bB : Below w4.heap.size w4 wB := by rw [hwB]; exact (Below.refl _ _).alloc (Nat.le_refl _) _
        have bAB : Below wA.heap.size wA wB := Below.chain b4 bB
        have rdB := rd4.below bB
        have rdsB := rds4.below bB
        have sB : wB.heap.size = w4.heap.size + 1 := by rw [hwB]; simp
        have kX4 := kX.below bAB (by omega)
        have rdX := rdA.below bAB
        have rdsX := rdsA.below bAB
        have g0 := kX4.cell 0
        have g1 := kX4.cell 1
        have g2 := kX4.cell 2
        have g3 := kX4.cell 3
        have g4 := kY.cell 0
        have g5 := kY.cell 1
        have g6 := kY.cell 2
        have g7 := kY.cell 3
        rw [hwB] at g0 g1 g2 g3 g4 g5 g6 g7
        have HB := Lib.hid hwB
        clear hwB
        go_wp2_with fail
        rw [← HB.out]
        refine (implSameCode_any p d p' d' a3 a4 ra3 ra4 c3 c4 rc3 rc4 xs ys xss yss wB rdX rdB rdsX rdsB).mono ?_
        rintro e w5 ⟨rfl, b5⟩
        have hb5 := Below.chain hbB b5
        have sz5 := b5.size
        have kX5 := kX4.below b5 (by omega)
        have kY5 := kY.below b5 (by omega)
        have kA5 := kA2.below hb5 kA2.lt
        have kB5 := kB2.below hb5 kB2.lt
        have hx5 := hx2.below hb5
        have hr5 := hr2.below hb5
        have hy5 := hy2.below hb5
        have hr5' := hr2'.below hb5
        have rdX5 := rdX.below b5
        have rdsX5 := rdsX.below b5
        have rdY5 := rdB.below b5
        have rdsY5 := rdsB.below b5
        have hfin := hb2.trans (hb5.mono (by omega))
        clear kX4 kY kA2 kB2 hx2 hr2 hy2 hr2' rdX rdsX rdB rdsB f0 f1 f2 f3 f4 f5 f6 f7 g0 g1 g2 g3 g4 g5 g6 g7 BX HA HB hb5 hbA hbB hb3 hb4 b3 b4 b5 bA bB bAB
        have bne0 : ((sameC p d xs xss p' d' ys yss) != (sameC p d xs xss p' d' ys yss)) = false := by simp
        have boxes14 : ∀ (W : World), Below w5.heap.size w5 W → (Below w5.heap.size w5 W ∧ W.cell? ⟨w3.heap.size, 0, none⟩ = some (.int .i64 p) ∧ W.cell? ⟨w3.heap.size, 1, none⟩ = some (.int .i64 d) ∧ W.cell? ⟨w3.heap.size, 2, none⟩ = some (.slice a3 xs.length c3) ∧ W.cell? ⟨w3.heap.size, 3, none⟩ = some (.slice ra3 xss.length rc3) ∧ W.cell? ⟨w.heap.size, 0, none⟩ = some (.int .i64 p) ∧ W.cell? ⟨w.heap.size, 1, none⟩ = some (.int .i64 d) ∧ W.cell? ⟨w.heap.size, 2, none⟩ = some (.slice a xs.length c) ∧ W.cell? ⟨w.heap.size, 3, none⟩ = some (.slice ra xss.length rc)) := fun _ h =>
          ⟨h, (kX5.below h kX5.lt).cell 0, (kX5.below h kX5.lt).cell 1, (kX5.below h kX5.lt).cell 2, (kX5.below h kX5.lt).cell 3, (kA5.below h kA5.lt).cell 0, (kA5.below h kA5.lt).cell 1, (kA5.below h kA5.lt).cell 2, (kA5.below h kA5.lt).cell 3⟩
        have BX14 := hide boxes14
        clear boxes14
        go_upto_region 14 with fail
        go_cut [39] (fun v wx => v = .bool false ∧ Below w5.heap.size w5 wx)
        case first =>
          go_region_held3 (fun W => Below w5.heap.size w5 W ∧ W.cell? ⟨w3.heap.size, 0, none⟩ = some (.int .i64 p) ∧ W.cell? ⟨w3.heap.size, 1, none⟩ = some (.int .i64 d) ∧ W.cell? ⟨w3.heap.size, 2, none⟩ = some (.slice a3 xs.length c3) ∧ W.cell? ⟨w3.heap.size, 3, none⟩ = some (.slice ra3 xss.length rc3) ∧ W.cell? ⟨w.heap.size, 0, none⟩ = some (.int .i64 p) ∧ W.cell? ⟨w.heap.size, 1, none⟩ = some (.int .i64 d) ∧ W.cell? ⟨w.heap.size, 2, none⟩ = some (.slice a xs.length c) ∧ W.cell? ⟨w.heap.size, 3, none⟩ = some (.slice ra xss.length rc))
            (first | exact (unhide BX14) _ (Below.refl _ _) | exact (unhide BX14) _ ((Below.refl _ _).drew) | exact (unhide BX14) _ (by assumption))
            (first
              | (go_at_call_of 26 (Value.slice a xs.length c); refine (toCode_any p d a ra c rc xs xss _ ?_ ?_).mono ?_; exact hx5.below (And.left (by assumption)); exact hr5.below (And.left (by assumption)); rintro e W1 ⟨v1, u1, rfl, oc1, bb1⟩; obtain ⟨a1, c1, ra1, rc1, rfl, rfl, rd1, rds1⟩ := oc1.form; have hB1 := Below.chain (a := w5) (And.left (by assumption)) bb1)
              | (go_at_call 28; refine (eqCode_any p d p d a3 a1 ra3 ra1 c3 c1 rc3 rc1 xs xs xss xss _ (rdX5.below hB1) rd1 (rdsX5.below hB1) rds1).mono ?_; rintro e W3 ⟨rfl, bb3⟩; have hB3 := Below.chain hB1 bb3; rw [sameC_self]))
          go_wp2
          go_meet
          exact ⟨rfl, hB3⟩
        case rest =>
        obtain ⟨rfl, hb6⟩ := hcut
        obtain ⟨w6, hw6⟩ : ∃ z, z = wOf hb6 := ⟨_, rfl⟩
        unfold wOf at hw6
        subst hw6
        have sz6 := hb6.size
        have kY6 := kY5.below hb6 kY5.lt
        have kB6 := kB5.below hb6 kB5.lt
        have hy6 := hy5.below hb6
        have hr6 := hr5'.below hb6
        have rdY6 := rdY5.below hb6
        have rdsY6 := rdsY5.below hb6
        have hfin6 := hfin.trans (hb6.mono (by omega))
        clear kX5 kY5 kA5 kB5 hx5 hr5 hy5 hr5' rdX5 rdsX5 rdY5 rdsY5
        have boxes16 : ∀ (W : World), Below w6.heap.size w6 W → (Below w6.heap.size w6 W ∧ W.cell? ⟨w4.heap.size, 0, none⟩ = some (.int .i64 p') ∧ W.cell? ⟨w4.heap.size, 1, none⟩ = some (.int .i64 d') ∧ W.cell? ⟨w4.heap.size, 2, none⟩ = some (.slice a4 ys.length c4) ∧ W.cell? ⟨w4.heap.size, 3, none⟩ = some (.slice ra4 yss.length rc4) ∧ W.cell? ⟨w.heap.size + 1, 0, none⟩ = some (.int .i64 p') ∧ W.cell? ⟨w.heap.size + 1, 1, none⟩ = some (.int .i64 d') ∧ W.cell? ⟨w.heap.size + 1, 2, none⟩ = some (.slice b ys.length c') ∧ W.cell? ⟨w.heap.size + 1, 3, none⟩ = some (.slice rb yss.length rc')) := fun _ h =>
          ⟨h, (kY6.below h kY6.lt).cell 0, (kY6.below h kY6.lt).cell 1, (kY6.below h kY6.lt).cell 2, (kY6.below h kY6.lt).cell 3, (kB6.below h kB6.lt).cell 0, (kB6.below h kB6.lt).cell 1, (kB6.below h kB6.lt).cell 2, (kB6.below h kB6.lt).cell 3⟩
        have BX16 := hide boxes16
        clear boxes16
        go_upto_region 16 with fail
        go_cut [44] (fun v wx => v = .bool false ∧ Below w6.heap.size w6 wx)
        case first =>
          go_region_held3 (fun W => Below w6.heap.size w6 W ∧ W.cell? ⟨w4.heap.size, 0, none⟩ = some (.int .i64 p') ∧ W.cell? ⟨w4.heap.size, 1, none⟩ = some (.int .i64 d') ∧ W.cell? ⟨w4.heap.size, 2, none⟩ = some (.slice a4 ys.length c4) ∧ W.cell? ⟨w4.heap.size, 3, none⟩ = some (.slice ra4 yss.length rc4) ∧ W.cell? ⟨w.heap.size + 1, 0, none⟩ = some (.int .i64 p') ∧ W.cell? ⟨w.heap.size + 1, 1, none⟩ = some (.int .i64 d') ∧ W.cell? ⟨w.heap.size + 1, 2, none⟩ = some (.slice b ys.length c') ∧ W.cell? ⟨w.heap.size + 1, 3, none⟩ = some (.slice rb yss.length rc'))
            (first | exact (unhide BX16) _ (Below.refl _ _) | exact (unhide BX16) _ ((Below.refl _ _).drew) | exact (unhide BX16) _ (by assumption))
            (first
              | (go_at_call_of 26 (Value.slice b ys.length c'); refine (toCode_any p' d' b rb c' rc' ys yss _ ?_ ?_).mono ?_; exact hy6.below (And.left (by assumption)); exact hr6.below (And.left (by assumption)); rintro e W1 ⟨v1, u1, rfl, oc1, bb1⟩; obtain ⟨a1, c1, ra1, rc1, rfl, rfl, rd1, rds1⟩ := oc1.form; have hB1 := Below.chain (a := w6) (And.left (by assumption)) bb1)
              | (go_at_call 28; refine (eqCode_any p' d' p' d' a4 a1 ra4 ra1 c4 c1 rc4 rc1 ys ys yss yss _ (rdY6.below hB1) rd1 (rdsY6.below hB1) rds1).mono ?_; rintro e W3 ⟨rfl, bb3⟩; have hB3 := Below.chain hB1 bb3; rw [sameC_self]))
          go_wp2
          go_meet
          exact ⟨rfl, hB3⟩
        case rest =>
        obtain ⟨rfl, hb7⟩ := hcut
        go_wp2
        go_ret
        exact ⟨rfl, hfin6.trans (hb7.mono (by omega))⟩
    · rw [left_no h2]
      go_wp2
      go_ret
      exact ⟨rfl, hb2⟩
  · rw [left_no h1]
    go_wp2
    go_ret
    exact ⟨rfl, hb1⟩
theorem law_FnExactSameCode (X Y : COD) (w : World) (hX : X.ok w) (hY : Y.ok w) :
    Calls Try.prog 7 #[X.val, Y.val] w fun e w' => e = .returned (.bool true) ∧ Below w.heap.size w w' :=
  lawSameCode X.p X.d Y.p Y.d X.l.a Y.l.a X.r.a Y.r.a _ _ X.l.c Y.l.c X.r.c Y.r.c X.l.xs Y.l.xs X.r.xss Y.r.xss w rfl hX.2.2.1.1 hX.2.2.1.2.1 hX.2.2.2.1 hX.2.2.2.2.1 rfl hY.2.2.1.1 hY.2.2.1.2.1 hY.2.2.2.1 hY.2.2.2.2.1

namespace fnExactSameCode
open Go.ChangeShapes Go.WideShapes Go.ChangeAt

set_option maxRecDepth 100000 in
set_option maxHeartbeats 800000 in
theorem lifted (os : Os) (started : os.Started) (H : Type) (enc : TypeId × Value → H) :
    ReturnsInHanded {} Try.checked os 7 .any (Rows.fnExactSameCodeSpec.pre6 enc Try.prog Try.f7 Rows.fnExactSameCodeRow.domain false) (Rows.fnExactSameCodeSpec.post enc Try.prog Try.f7 false true false false) := by
  refine returnsInHanded_of_change (C := Try.checked) ownKnob_none started (by kernel_rfl) Try.func7
    (ChangeSpec.witness6 (enc := enc) (C := Try.checked) false ⟨#[], #[.agg #[.int .i64 0, .int .i64 0, .slice none 0 0, .slice none 0 0], .agg #[.int .i64 0, .int .i64 0, .slice none 0 0, .slice none 0 0]], []⟩ 8 (by kernel_rfl) (by kernel_rfl) (by kernel_rfl) (by kernel_rfl)) ?_
  intro W base args ds gs before hval0 hW _ _
  have hval : ∀ (j : Nat) t v, Try.f7.params[j]? = some t → args[j]? = some v → Value.okWide Try.prog W .any base t v := hval0
  have hW' := hW
  obtain ⟨p, q, hA0, hV, rfl, hfz, hnd⟩ := hW
  have hA : DataW.TrodAll enc Try.prog W 0 (fun _ => true) true Try.f7.params.toList args.toList ds p := hA0
  rw [Try.params7] at hA hval
  obtain ⟨v0, vs0, d0, ds0, p0, q0, hargs, rfl, rfl, h0, r0⟩ := trodAll_cons hA
  obtain ⟨v1, vs1, d1, ds1, p1, q1, rfl, rfl, rfl, h1, r1⟩ := trodAll_cons r0
  obtain ⟨rfl, rfl, rfl⟩ := trodAll_nil r1
  obtain rfl : args = #[v0, v1] := by cases args; simp_all
  obtain ⟨rfl, rfl⟩ := trodVars_none hV
  have k0 := h0
  have lt0 : ∀ x ∈ p0, x.block < W.heap.size := by obtain ⟨m, hm⟩ := k0; exact DataW.trod_lt m _ _ _ hm
  obtain ⟨X0, rfl, e0⟩ := open_cod (hval 0 46 v0 rfl rfl) h0
  have k1 := h1
  have lt1 : ∀ x ∈ p1, x.block < W.heap.size := by obtain ⟨m, hm⟩ := k1; exact DataW.trod_lt m _ _ _ hm
  obtain ⟨X1, rfl, e1⟩ := open_cod (hval 1 46 v1 rfl rfl) h1
  clear hA0 hval0
  refine (law_FnExactSameCode X0  X1  W e0 e1).mono fun e W' ⟨he, bel⟩ => ?_
  subst he
  exact ⟨_, rfl, _, _, _, [], _, [], hW', trodAll_mk1 (shut_bool Try.underlying4 _), (trodAll_cons_mk (Below.trod laidOut_ok (by kernel_rfl) (of_decide_eq_true (by kernel_rfl)) k0 bel lt0) (trodAll_cons_mk (Below.trod laidOut_ok (by kernel_rfl) (of_decide_eq_true (by kernel_rfl)) k1 bel lt1) trodAll_mk0)), rfl, bel.frame _, fun h => by cases h⟩

theorem over : Rows.fnExactSameCodeRow.holds Try.pinned (OpenSpec.ofChange Rows.fnExactSameCodeSpec) :=
  OpenClaim.holds_of_wide 7 Try.f7 rfl rfl rfl rfl rfl rfl rfl ⟨rfl, rfl, rfl, rfl, rfl⟩ rfl rfl rfl rfl rfl (by kernel_rfl) Try.func7 (by kernel_rfl)
    (of_decide_eq_true (by kernel_rfl)) (by unfold Func.isWrapper; first | (rw [if_pos (by decide +kernel)]; kernel_rfl) | (rw [if_neg (by decide +kernel)]; exact ⟨rfl, rfl⟩))
    (fun os started H enc _ => lifted os started H enc)

theorem proved : Rows.FnExactSameCodeSaid := over
#print axioms proved
end fnExactSameCode
end Go.Proofs.Ytcdfabnhaephhaa
