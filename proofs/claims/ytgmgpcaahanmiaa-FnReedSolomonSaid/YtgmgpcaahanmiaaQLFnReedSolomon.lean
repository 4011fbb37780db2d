/-
  Proved: FnReedSolomon returns true for every input and leaves its arguments as they were. No condition. Printed by gen_lrs.py.
-/
import Derived.BigQuiet
import Derived.BigRegion
import Derived.ChangeOld
import Derived.Deep.DeepCutAuto
import Derived.Deep.DeepMust
import Derived.Deep.DrawnRows
import Derived.Deep.Draws
import Derived.Deep.OwnRows
import Derived.Deep.QuietTactic
import Derived.Deep.RegionHeld3
import Derived.Deep.Slices
import Derived.IntWalk
import Derived.Laws.Rows
import Derived.Lib.Hide
import Derived.Maps.AppendAt
import Derived.OpenShut
import Derived.OwnWalk
import Derived.ProofKit
import Derived.ShutString
import Derived.StillTailTactics
import Derived.Test.YtgmgpcaahanmiaaProg
import Derived.Test.YtgmgpcaahanmiaaRows
import Derived.WalkKit
import Derived.WalkLawsBesides
import Derived.WalkSpells
import Derived.Test.YtgmgpcaahanmiaaZ5
import Derived.Test.YtgmgpcaahanmiaaZ63
import Derived.Test.YtgmgpcaahanmiaaZ65
import Derived.Test.YtgmgpcaahanmiaaZ66
set_option linter.unusedVariables false
set_option linter.unusedSimpArgs false
namespace Go.Proofs.Ytgmgpcaahanmiaa
open Go.RowKit
attribute [local go_sem ↓] Go.wp_at_zero Go.wp_at_succ

theorem set_el {n : Int} {xs : List Int} (h : ∀ x ∈ xs, 0 ≤ x ∧ x < n) {y : Int} (hy : 0 ≤ y ∧ y < n) (i : Nat) : ∀ x ∈ xs.set i y, 0 ≤ x ∧ x < n := fun x hx => by
  rcases List.mem_or_eq_of_mem_set hx with h1 | h1
  · exact h x h1
  · rw [h1]; exact hy
theorem snoc_el {n : Int} {xs : List Int} (h : ∀ x ∈ xs, 0 ≤ x ∧ x < n) {y : Int} (hy : 0 ≤ y ∧ y < n) : ∀ x ∈ xs ++ [y], 0 ≤ x ∧ x < n := fun x hx => by
  rcases List.mem_append.1 hx with h1 | h1
  · exact h x h1
  · rw [List.mem_singleton.1 h1]; exact hy
set_option maxRecDepth 100000 in
set_option maxHeartbeats 4000000 in
theorem lawRSL (a b : Option Addr) (c d : Nat) (xs ys : List Int) (w0 : World) (hxl : xs.length ≤ maxLen) (hyl : ys.length ≤ maxLen) (hx : xs.length ≤ 1048576 → RdB w0 a xs) (hy : ys.length ≤ 1048576 → RdB w0 b ys) :
    Calls Try.prog 5 #[.slice a xs.length c, .slice b ys.length d] w0 fun e w' => e = .returned (.bool true) ∧ Below w0.heap.size w0 w' := by
  have HLX := hide (b10Long_any a c xs.length w0 hxl)
  have HLY := hide (b10Long_any b d ys.length w0 hyl)
  clear hxl hyl
  by_cases hl : 1048576 < xs.length
  · rw [show decide (1048576 < xs.length) = true from decide_eq_true hl] at HLX
    clear hl hx hy
    go_enter Try.func5, Try.ntmps5
    go_wp2_with fail
    refine (unhide HLX).mono ?_
    rintro e w1 ⟨rfl, rfl⟩
    go_wp2
    go_ret
    exact ⟨rfl, Below.refl _ _⟩
  rw [show decide (1048576 < xs.length) = false from decide_eq_false hl] at HLX
  have HX := hide (hx (by omega))
  clear hx hl
  by_cases hl : 1048576 < ys.length
  · rw [show decide (1048576 < ys.length) = true from decide_eq_true hl] at HLY
    clear hl hy
    go_enter Try.func5, Try.ntmps5
    go_wp2_with fail
    refine (unhide HLX).mono ?_
    rintro e w1 ⟨rfl, rfl⟩
    go_wp2_with fail
    refine (unhide HLY).mono ?_
    rintro e w1 ⟨rfl, rfl⟩
    go_wp2
    go_ret
    exact ⟨rfl, Below.refl _ _⟩
  rw [show decide (1048576 < ys.length) = false from decide_eq_false hl] at HLY
  have HY := hide (hy (by omega))
  clear hy hl
  go_enter Try.func5, Try.ntmps5
  go_wp2_with fail
  refine (unhide HLX).mono ?_
  rintro e w1 ⟨rfl, rfl⟩
  go_wp2_with fail
  refine (unhide HLY).mono ?_
  rintro e w1 ⟨rfl, rfl⟩
  clear HLX HLY
  go_wp2_with fail
  refine (drawRS_any a c xs w0 (unhide HX)).mono ?_
  rintro e w1 ⟨q, k, n, rfl, hq, hk, hn, b1⟩
  have hk2 := hk.2
  have hk1 := hk.1
  go_wp2_with fail
  go_loopw [8, 9] (fun sv iv wr => ∃ s i : Int, sv = .int .i64 s ∧ iv = .int .i64 i ∧ 0 ≤ i ∧ (i ≤ k ∨ i = 0) ∧ wr = w1) (fun _ iv _ => (k - intOf iv).toNat)
  case atStart => exact ⟨1, 0, rfl, rfl, by omega, .inr rfl, rfl⟩
  case round =>
    obtain ⟨s, i, rfl, rfl, hi0, hik, rfl⟩ := hrel
    by_cases hil : i < k
    · by_cases hs : s ≤ 300
      · go_wp2_with fail
        go_roundw
        case rel => exact ⟨_, _, rfl, rfl, by omega, by omega, trivial⟩
        case measure => simp only [intOf]; omega
      · go_wp2
        go_ret
        exact ⟨rfl, b1⟩
    · by_cases hs : 300 < s
      · go_wp2
        go_ret
        exact ⟨rfl, b1⟩
      · have him := implRS_any q k n wr hk
        by_cases hc : (rsRes q k n).2.2.2.2 = 0
        · obtain ⟨F, K, N, A, rfl, rfl, rfl, hR⟩ := rs_ok hc
          have HR := hide hR
          rw [hR.res] at him
          have HIM := hide him
          have hG := hR.gc.good
          have ok := hG.ok
          have hF0 := ok.p2
          have hF1 := ok.p64
          have hF2 := ok.k6
          obtain ⟨n2, n64⟩ := ok.n_bd
          have hk1 := hR.k1
          have hk8 := hR.k8
          have hkn := hR.kn
          have hnq := hR.nq
          have hn32 := hR.n32
          have hAl := hR.gc.m1
          clear hc him hq hn hk hk2 hR hik
          go_wp2_with fail
          refine (unhide HIM).mono ?_
          clear hi0 hil hs
          rintro e w2 ⟨v2, u2, rfl, o2, b2⟩
          obtain ⟨A2, C2, RA2, RC2, rfl, rfl, r2, rs2⟩ := o2.form
          clear o2
          have z2 := b2.size
          have hb2 := Below.chain b1 b2
          obtain ⟨W, hW⟩ : ∃ z, z = w2.alloc (.cells #[.int .i64 F.p, .int .i64 F.k, .slice A2 F.poly.length C2, .slice RA2 A.length RC2] 37) := ⟨_, rfl⟩
          have bW : Below w2.heap.size w2 W := by rw [hW]; exact (Below.refl _ _).alloc (Nat.le_refl _) _
          have kW : Blk W w2.heap.size 37 #[.int .i64 F.p, .int .i64 F.k, .slice A2 F.poly.length C2, .slice RA2 A.length RC2] := by rw [hW]; exact Blk.new _ _ _ rfl
          have hb3 := Below.chain hb2 bW
          have r3 := r2.below bW
          have rs3 := rs2.below bW
          have hgC := kW.lt
          have zW := hb3.size
          have HW := Lib.hid hW
          clear hW r2 rs2 bW
          have e0 := kW.cell 0
          have e1 := kW.cell 1
          have e2 := kW.cell 2
          have e3 := kW.cell 3
          go_upto_region 12 with fail
          rw [← HW.out]
          go_wp2_with fail
          refine (implMD_any F.p F.k A2 C2 F.poly RA2 RC2 A W r3 rs3 ⟨by omega, by omega⟩).mono ?_
          rintro e w3 ⟨rfl, b3⟩
          rw [(unhide HR).mds]
          have hb4 := Below.chain hb3 b3
          have zz3 := b3.size
          have yr := (unhide HY).below hb4
          have HYR := hide yr
          clear yr e0 e1 e2 e3
          go_wp2_with fail
          go_loopw [14, 15] (fun mv iv wr => ∃ (i : Nat) (msg : List Int), iv = .int .i64 i ∧ i ≤ K ∧ msg.length = i ∧ Hid (∀ x ∈ msg, 0 ≤ x ∧ x < F.n) ∧ Hid (Own wr w3.heap.size mv msg) ∧ Below w3.heap.size w3 wr) (fun _ iv _ => K - (intOf iv).toNat)
          case atStart => exact ⟨0, [], rfl, Nat.zero_le _, rfl, by show ∀ x ∈ ([] : List Int), _; simp, Own.empty w3 (Nat.le_refl _), (Below.refl _ _).alloc (Nat.le_refl _) _⟩
          case round =>
            obtain ⟨i, msg, rfl, hik, hml, he, ho, hb⟩ := hrel
            have hsz := hb.size
            by_cases hil : i < K
            · go_wp2_with fail
              refine (b10At_any b d ys i F.n wr ((unhide HYR).below hb) (by omega)).mono ?_
              rintro e wr' ⟨y, rfl, hyb, rfl⟩
              go_wp2_with (at_builtin; refine wpList_append_ints rfl (.tmp 72) (.tmp 77) rfl w3.heap.size u14 msg [y] rfl (ho.out.alloc _) _ 1 1 rfl rfl (Rd.one wr y _) (by simp; omega) (by simp; omega) ?_; intro v1 w4 o1 g1 _)
              go_roundw
              case rel =>
                refine ⟨i + 1, msg ++ [(y : Int)], by go_num, by omega, by simp [hml], snoc_el he.out ⟨by omega, ?_⟩, o1, Below.step (hb.alloc hsz _) g1 (ho.out.alloc _) (Nat.le_refl _) (by simp; omega)⟩
                rcases hyb with h | h
                · exact h
                · omega
              case measure => simp only [intOf]; omega
            · have hiK : msg.length = K := by omega
              obtain ⟨am, cm, rfl, rm, _⟩ := ho.out.form
              have hpw := implPW_any F.n am cm msg N wr rm
              rw [(unhide HR).pw msg hiK he.out] at hpw
              have HPW := hide hpw
              have HO := hide ho.out
              have HMK := Lib.hid hiK
              have hmK : msg.length ≤ 8 := by omega
              have hb5 := Below.chain hb4 hb
              clear hpw hiK hml ho rm
              go_wp2_with fail
              refine (unhide HPW).mono ?_
              clear hil
              rintro e w4 ⟨v4, rfl, o4, b4⟩
              have hvl := vals_len F msg N
              have hb6 := Below.chain hb5 b4
              have z4 := b4.size
              obtain ⟨g4, c4, rfl, _, hg4, _, _⟩ := o4.at_len (n := N) hvl (by omega)
              have hd1 := Below.chain (Below.chain b3 hb) b4
              have hzd := hd1.size
              have e0 := (kW.below hd1 hgC).cell 0
              have e1 := (kW.below hd1 hgC).cell 1
              have e2 := (kW.below hd1 hgC).cell 2
              have e3 := (kW.below hd1 hgC).cell 3
              have r4 := r3.below hd1
              have rs4 := rs3.below hd1
              have rv4 := o4.rd
              have hch := implCH_any F.p F.k A2 C2 F.poly RA2 RC2 A (some ⟨g4, 0, none⟩) c4 (vals F msg N) w4 r4 rs4 rv4 ⟨by omega, by omega⟩
              rw [(unhide HR).has msg HMK.out he.out, hvl] at hch
              have hve := vals_el ok msg N
              obtain ⟨V, hV⟩ : ∃ V, V = vals F msg N := ⟨_, rfl⟩
              rw [← hV] at o4 rv4 hvl hve
              have HCH := hide hch
              have HV := Lib.hid hV
              have HVL := Lib.hid hvl
              have HVE := hide hve
              have RV := hide rv4
              have hnn : ((N : Int) != (N : Int)) = false := by simp
              clear hch hV hvl hve o4 r4 rs4 rv4
              go_wp2_with fail
              refine (unhide HCH).mono ?_
              rintro e w5 ⟨rfl, b5⟩
              have hb7 := Below.chain hb6 b5
              have z5 := b5.size
              go_wp2_with (at_builtin; refine wpList_append_ints rfl (.tmp 108) (.tmp 109) rfl w5.heap.size _ [] V rfl (Own.empty w5 (Nat.le_refl _)) (some ⟨g4, 0, none⟩) N c4 rfl HVL.out.symm (((unhide RV).below b5).alloc _) (by rw [HVL.out]; simp; omega) (by simp) ?_; intro v6 w6 o6 hg6 _)
              have b6 : Below w5.heap.size w5 w6 := Below.step ((Below.refl _ _).alloc (Nat.le_refl _) _) hg6 (Own.empty w5 (Nat.le_refl _)) (Nat.le_refl _) (by simp)
              have o6 : Own w6 w5.heap.size v6 V := by simpa using o6
              obtain ⟨g6, c6, rfl, hg6a, hg6b, _, _⟩ := o6.at_len (n := N) HVL.out (by omega)
              have z6 := b6.size
              have hbb := Below.chain hb7 b6
              have o6' := Lib.hid o6
              have HYR5 := hide ((unhide HYR).below (Below.chain (Below.chain hb b4) b5))
              have RM := hide ((unhide HO).below (Below.chain b4 b5) (Nat.le_refl _)).rd
              clear o6 hg6
              go_loopw [19] (fun iv wr => ∃ (i : Nat) (wd : List Int), iv = .int .i64 i ∧ i ≤ (N - K) / 2 ∧ wd.length = N ∧ Hid (∀ x ∈ wd, 0 ≤ x ∧ x < F.n) ∧ Hid (apartTo V wd N ≤ i) ∧ Hid (Own wr w5.heap.size (.slice (some ⟨g6, 0, none⟩) N c6) wd) ∧ Below w5.heap.size w5 wr) (fun iv _ => (N - K) / 2 - (intOf iv).toNat)
              case atStart => exact ⟨0, V, rfl, Nat.zero_le _, HVL.out, unhide HVE, by show apartTo V V N ≤ 0; rw [apart_self fun i _ => rfl]; exact Nat.le_refl _, o6', b6⟩
              case round =>
                obtain ⟨i, wd, rfl, hie, hwl, hwe, hap, ho, hb8⟩ := hrel
                have z8 := hb8.size
                by_cases hil : i < (N - K) / 2
                · have hil2 : (i : Int) < ((N : Int) - K) / 2 := by omega
                  have hba := fun W h => b10At_any b d ys (20 + i) N W h (by omega)
                  have hbb := fun W h => b10At_any b d ys (40 + i) F.n W h (by omega)
                  rw [show ((20 + i : Nat) : Int) = 20 + (i : Int) from by omega] at hba
                  rw [show ((40 + i : Nat) : Int) = 40 + (i : Int) from by omega] at hbb
                  have HBA := hide hba
                  have HBB := hide hbb
                  have HWL := Lib.hid hwl
                  clear hba hbb hwl
                  go_wp2_with fail
                  refine (unhide HBA _ ((unhide HYR5).below hb8)).mono ?_
                  rintro e wr' ⟨x, rfl, hxb, rfl⟩
                  have hxN : x < N := by
                    rcases hxb with h | h
                    · omega
                    · omega
                  go_wp2_with fail
                  refine (unhide HBB _ ((unhide HYR5).below hb8)).mono ?_
                  rintro e wr' ⟨y, rfl, hyb, rfl⟩
                  have hyn : (y : Int) < F.n := by
                    rcases hyb with h | h
                    · omega
                    · omega
                  have cx := ho.out.cell (j := x) (by rw [HWL.out]; exact hxN)
                  have fx := ho.out.frozen x
                  clear hxb hyb
                  go_wp2_with fail
                  go_roundw
                  case rel =>
                    have hs := ho.out.set x y
                    refine ⟨i + 1, wd.set x y, by go_num, by omega, by rw [List.length_set, HWL.out], set_el hwe.out ⟨by omega, hyn⟩ x, ?_, hs.1, hb8.grown hs.2 z8 (fun q hq => by injection hq; omega)⟩
                    show _ ≤ _
                    have := apart_set (a := V) (b := wd) x y N
                    have := hap.out
                    omega
                  case measure => simp only [intOf]; omega
                · have hil2 : ¬ (i : Int) < ((N : Int) - K) / 2 := by omega
                  have hdp := implDP_any F.n K (some ⟨g6, 0, none⟩) c6 wd wr ho.out.rd ⟨by omega, by omega⟩
                  rw [(unhide HR).dec wd msg HMK.out he.out hwl hwe.out (by rw [← HV.out]; have := hap.out; omega), hwl] at hdp
                  have HDP := hide hdp
                  clear hdp hil hwl
                  go_wp2_with fail
                  refine (unhide HDP).mono ?_
                  rintro e w9 ⟨v9, rfl, o9, b9⟩
                  obtain ⟨a9, c9, rfl, r9, _⟩ := o9.form
                  have heq := b10Nums_any a9 am c9 cm msg msg w9 r9 ((unhide RM).below (Below.chain hb8 b9))
                  rw [show decide (msg = msg) = true from decide_eq_true rfl] at heq
                  have HEQ := hide heq
                  have hb9 := Below.chain (Below.chain hb7 hb8) b9
                  clear heq o9 r9
                  go_wp2_with fail
                  refine (unhide HEQ).mono ?_
                  rintro e w10 ⟨rfl, t10⟩
                  go_wp2
                  go_ret
                  exact ⟨rfl, Below.chain hb9 (t10.below _)⟩
        · have hrw := rsRes_err hc
          obtain ⟨rp, rd, rx, ry, rc, hR⟩ : ∃ rp rd rx ry rc, (rsRes q k n) = (rp, rd, rx, ry, rc) := ⟨_, _, _, _, _, rfl⟩
          rw [hR] at him hrw hc
          have hry : ry = [] := hrw
          have hrc : rc ≠ 0 := hc
          subst hry
          have HIM := hide him
          clear him hc hrw hR
          go_wp2_with fail
          refine (unhide HIM).mono ?_
          rintro e w2 ⟨v2, u2, rfl, o2, b2⟩
          obtain ⟨A2, C2, RA2, RC2, rfl, rfl, r2, rs2⟩ := o2.form
          have hb2 := Below.chain b1 b2
          obtain ⟨W, hW⟩ : ∃ z, z = w2.alloc (.cells #[.int .i64 rp, .int .i64 rd, .slice A2 rx.length C2, .slice RA2 0 RC2] 37) := ⟨_, rfl⟩
          have bW : Below w2.heap.size w2 W := by rw [hW]; exact (Below.refl _ _).alloc (Nat.le_refl _) _
          have kW : Blk W w2.heap.size 37 #[.int .i64 rp, .int .i64 rd, .slice A2 rx.length C2, .slice RA2 0 RC2] := by rw [hW]; exact Blk.new _ _ _ rfl
          have e1 := kW.cell 3
          have HW := Lib.hid hW
          clear hW
          go_upto_region 12 with fail
          rw [← HW.out]
          go_wp2
          go_ret
          exact ⟨rfl, Below.chain hb2 bW⟩

theorem law_FnReedSolomon (X Y : SB) (w : World) (hX : X.ok w) (hY : Y.ok w) :
    Calls Try.prog 5 #[X.val, Y.val] w fun e w' => e = .returned (.bool true) ∧ Below w.heap.size w w' :=
  lawRSL X.a Y.a X.c Y.c X.xs Y.xs w hX.1 hY.1 hX.2 hY.2

namespace fnReedSolomon
open Go.ChangeShapes Go.WideShapes Go.ChangeAt

set_option maxRecDepth 100000 in
set_option maxHeartbeats 800000 in
theorem lifted (os : Os) (started : os.Started) (H : Type) (enc : TypeId × Value → H) :
    ReturnsInHanded {} Try.checked os 5 .any (Rows.fnReedSolomonSpec.pre6 enc Try.prog Try.f5 Rows.fnReedSolomonRow.domain false) (Rows.fnReedSolomonSpec.post enc Try.prog Try.f5 false true false false) := by
  refine returnsInHanded_of_change (C := Try.checked) ownKnob_none started (by kernel_rfl) Try.func5
    (ChangeSpec.witness6 (enc := enc) (C := Try.checked) false ⟨#[], #[.slice none 0 0, .slice none 0 0], []⟩ 8 (by kernel_rfl) (by kernel_rfl) (by kernel_rfl) (by kernel_rfl)) ?_
  intro W base args ds gs before hval0 hW _ _
  have hval : ∀ (j : Nat) t v, Try.f5.params[j]? = some t → args[j]? = some v → Value.okWide Try.prog W .any base t v := hval0
  have hW' := hW
  obtain ⟨p, q, hA0, hV, rfl, hfz, hnd⟩ := hW
  have hA : DataW.TrodAll enc Try.prog W 0 (fun _ => true) true Try.f5.params.toList args.toList ds p := hA0
  rw [Try.params5] at hA hval
  obtain ⟨v0, vs0, d0, ds0, p0, q0, hargs, rfl, rfl, h0, r0⟩ := trodAll_cons hA
  obtain ⟨v1, vs1, d1, ds1, p1, q1, rfl, rfl, rfl, h1, r1⟩ := trodAll_cons r0
  obtain ⟨rfl, rfl, rfl⟩ := trodAll_nil r1
  obtain rfl : args = #[v0, v1] := by cases args; simp_all
  obtain ⟨rfl, rfl⟩ := trodVars_none hV
  have k0 := h0
  have lt0 : ∀ x ∈ p0, x.block < W.heap.size := by obtain ⟨m, hm⟩ := k0; exact DataW.trod_lt m _ _ _ hm
  obtain ⟨X0, rfl, e0⟩ := open_sb (hval 0 29 v0 rfl rfl) h0
  have k1 := h1
  have lt1 : ∀ x ∈ p1, x.block < W.heap.size := by obtain ⟨m, hm⟩ := k1; exact DataW.trod_lt m _ _ _ hm
  obtain ⟨X1, rfl, e1⟩ := open_sb (hval 1 29 v1 rfl rfl) h1
  clear hA0 hval0
  refine (law_FnReedSolomon X0  X1  W e0 e1).mono fun e W' ⟨he, bel⟩ => ?_
  subst he
  exact ⟨_, rfl, _, _, _, [], _, [], hW', trodAll_mk1 (shut_bool Try.underlying4 _), (trodAll_cons_mk (Below.trod laidOut_ok (by kernel_rfl) (of_decide_eq_true (by kernel_rfl)) k0 bel lt0) (trodAll_cons_mk (Below.trod laidOut_ok (by kernel_rfl) (of_decide_eq_true (by kernel_rfl)) k1 bel lt1) trodAll_mk0)), rfl, bel.frame _, fun h => by cases h⟩

theorem over : Rows.fnReedSolomonRow.holds Try.pinned (OpenSpec.ofChange Rows.fnReedSolomonSpec) :=
  OpenClaim.holds_of_wide 5 Try.f5 rfl rfl rfl rfl rfl rfl rfl ⟨rfl, rfl, rfl, rfl, rfl⟩ rfl rfl rfl rfl rfl (by kernel_rfl) Try.func5 (by kernel_rfl)
    (of_decide_eq_true (by kernel_rfl)) (by unfold Func.isWrapper; first | (rw [if_pos (by decide +kernel)]; kernel_rfl) | (rw [if_neg (by decide +kernel)]; exact ⟨rfl, rfl⟩))
    (fun os started H enc _ => lifted os started H enc)

theorem proved : Rows.FnReedSolomonSaid := over
#print axioms proved
end fnReedSolomon
end Go.Proofs.Ytgmgpcaahanmiaa

