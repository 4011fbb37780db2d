/-
  Walks: DualWeights on both sides. Printed by gen_dw.py.
-/
import Derived.BigQuiet
import Derived.BigRegion
import Derived.ChangeOld
import Derived.Deep.DeepCutAuto
import Derived.Deep.DeepMust
import Derived.Deep.DrawnRows
import Derived.Deep.Draws
import Derived.Deep.OwnRows
import Derived.Deep.QuietTactic
import Derived.Deep.RegionHeld3
import Derived.Deep.Slices
import Derived.IntWalk
import Derived.Laws.Rows
import Derived.Lib.Hide
import Derived.Maps.AppendAt
import Derived.OpenShut
import Derived.OwnWalk
import Derived.ProofKit
import Derived.ShutString
import Derived.StillTailTactics
import Derived.Test.YtcblhjhabhjbkaaProg
import Derived.Test.YtcblhjhabhjbkaaRows
import Derived.WalkKit
import Derived.WalkLawsBesides
import Derived.WalkSpells
import Derived.Test.YtcblhjhabhjbkaaZ30
import Derived.Test.YtcblhjhabhjbkaaZ33
import Derived.Test.YtcblhjhabhjbkaaZ37
import Derived.Test.YtcblhjhabhjbkaaZ50
set_option linter.unusedVariables false
set_option linter.unusedSimpArgs false
namespace Go.Proofs.Ytcblhjhabhjbkaa
open Go.RowKit
attribute [local go_sem ↓] Go.wp_at_zero Go.wp_at_succ
/-- The first i products of the identity of MacWilliams. -/
def dwTo (q : Int) (n : Nat) (ws : List Int) (j : Nat) : Nat → Int
  | 0 => 0
  | i + 1 => dwTo q n ws j i + nth ws i * kR q n i j
def dwL (q K : Int) (n : Nat) (ws : List Int) (k : Nat) : List Int := (List.range k).map fun j => (dwTo q n ws j (n + 1)).tdiv K
theorem dwL_len (q K : Int) (n : Nat) (ws : List Int) (k : Nat) : (dwL q K n ws k).length = k := by simp [dwL]
theorem dwL_succ (q K : Int) (n : Nat) (ws : List Int) (k : Nat) : dwL q K n ws (k + 1) = dwL q K n ws k ++ [(dwTo q n ws k (n + 1)).tdiv K] := by simp [dwL, List.range_succ]
def dwV (F : FD) (n : Nat) (m : List (List Int)) : List Int × Int := if capTo F.n LIM (n + m.length) ≤ LIM then (dwL F.n ((F.n ^ m.length : Nat) : Int) n (wts F n m) (n + 1), 0) else ([], 2)
def dwRes (p d : Int) (xs : List Int) (m : List (List Int)) : List Int × Int := if okC p d xs m = true then dwV (fdR p d xs) (nthL m 0).length m else ([], 1)
theorem mul_bd2 {x y : Int} (h0 : 0 ≤ x) (h1 : x ≤ 4096) (h2 : -33000000000000 ≤ y) (h3 : y ≤ 33000000000000) : -135168000000000000 ≤ x * y ∧ x * y ≤ 135168000000000000 := by
  have a := Int.mul_le_mul_of_nonneg_left h3 h0
  have b := Int.mul_le_mul_of_nonneg_left h2 h0
  constructor <;> omega
theorem dwTo_bd {q : Int} (hq : 2 ≤ q) {n j : Nat} (hn : n ≤ 32) (hj : j ≤ n) (hL : q ^ n ≤ LIM) {ws : List Int} (hw : ∀ i, 0 ≤ nth ws i ∧ nth ws i ≤ 4096) {i : Nat} (hi : i ≤ n + 1) : -((i : Int) * 135168000000000000) ≤ dwTo q n ws j i ∧ dwTo q n ws j i ≤ (i : Int) * 135168000000000000 := by
  induction i with
  | zero => simp [dwTo]
  | succ i ih =>
    have ih := ih (by omega)
    have k := kR_bd hq (i := i) (j := j) hn (by omega) hj hL
    have p := mul_bd2 (hw i).1 (hw i).2 k.1 k.2
    rw [dwTo]
    omega
theorem wts_bd {F : FD} {n : Nat} {m : List (List Int)} (h : GC F n m) (i : Nat) : 0 ≤ nth (wts F n m) i ∧ nth (wts F n m) i ≤ 4096 := by
  have := cntW_bd (wordsTo F n m m.length) n (wordsTo F n m m.length).length i
  have l := wordsTo_len F n m m.length
  have q := h.cap_eq.2
  rw [wts]
  omega
theorem cap_sub {q : Int} {a b : Nat} (h1 : 1 ≤ q) (h : capTo q LIM (a + b) ≤ LIM) : q ^ a ≤ LIM := by
  have h2 := capTo_anti (show a ≤ a + b by omega) h
  rwa [capTo_eq h1 h2] at h2
set_option maxRecDepth 100000 in
set_option maxHeartbeats 6400000 in
theorem implDW_any (p d : Int) (a : Option Addr) (c : Nat) (xs : List Int) (ra : Option Addr) (rc : Nat) (m : List (List Int)) (w : World) (hx : Rd w a xs) (hm : RdS w ra m) (ed : I64 d) : Calls Try.prog 21 #[.agg #[.int .i64 p, .int .i64 d, .slice a xs.length c, .slice ra m.length rc]] w (ResL w (dwRes p d xs m)) := by
  have hml := hm.len
  generalize hR : dwRes p d xs m = r
  obtain ⟨W0, hHW⟩ : ∃ z, z = w.alloc (.cells #[.int .i64 p, .int .i64 d, .slice a xs.length c, .slice ra m.length rc] 31) := ⟨_, rfl⟩
  have b0 : Below w.heap.size w W0 := by rw [hHW]; exact (Below.refl _ _).alloc (Nat.le_refl _) _
  have k0 : Blk W0 w.heap.size 31 #[.int .i64 p, .int .i64 d, .slice a xs.length c, .slice ra m.length rc] := by rw [hHW]; exact Blk.new _ _ _ rfl
  have sk0 : w.heap.size < W0.heap.size := k0.lt
  have HW := Lib.hid hHW
  clear hHW
  have hV := implVC_any p d a c xs ra rc m W0 (hx.below b0) (hm.below b0) ed
  cases hk : okC p d xs m with
  | false =>
    have HN := Lib.hid (show r = ([], 1) by rw [← hR, dwRes, hk]; rfl)
    rw [hk] at hV
    have HV := hide hV
    clear hV hk hR
    have f0 := k0.cell 0
    have f1 := k0.cell 1
    have f2 := k0.cell 2
    have f3 := k0.cell 3
    go_enter Try.func21, Try.ntmps21
    go_upto_region 1 with fail
    rw [← HW.out]
    go_wp2_with fail
    refine (unhide HV).mono ?_
    rintro e w1 ⟨rfl, b1⟩
    have k1 := k0.below b1 k0.lt
    clear f0 f1 f2 f3
    have f0 := k1.cell 0
    have f1 := k1.cell 1
    have f2 := k1.cell 2
    have f3 := k1.cell 3
    have bb1 := b0.trans (b1.mono (Nat.le_of_lt sk0))
    go_wp2
    go_ret2
    rw [HN.out]
    exact ⟨_, rfl, Own.nil _ _, bb1⟩
  | true =>
    obtain ⟨F, n, rfl, rfl, rfl, hC⟩ := okC_gc hk
    have ok := hC.good.ok
    obtain ⟨n2, n64⟩ := ok.n_bd
    have hm1 := hC.m1
    have hm0 : 0 < m.length := by omega
    have hm8 := hC.m8
    have hn1 := hC.n1
    have hn32 := hC.n32
    rw [hk] at hV
    have HV := hide hV
    have hRR : r = dwV F n m := by rw [← hR, dwRes, hk, fdR_eq, hC.hn]; rfl
    clear hV hk hR
    obtain ⟨hcap, hQ⟩ := hC.cap_eq
    have hq2 : (2 : Int) ≤ F.n := by omega
    have hq64 : (F.n : Int) ≤ 64 := by omega
    have hL := fun W (h : Below W0.heap.size W0 W) => lengthOf_any F.p F.k a F.poly.length c ra rc m W ((hm.below b0).below h) hm1
    rw [hC.hn] at hL
    have hFS := fun W => fieldSize_any F a c W ok
    have hPW := fun W => powerUpTo_any F.n ((n : Int) + m.length) 1000000000000 W (by omega) (by omega) (by omega) (by omega) (by omega)
    rw [show ((n : Int) + m.length).toNat = n + m.length by omega] at hPW
    change ∀ W, Calls Try.prog _ _ W (fun e w' => e = .returned (.int .i64 (capTo F.n LIM (n + m.length))) ∧ W = w') at hPW
    have hPK := fun W => powerUpTo_any F.n m.length 4096 W (by omega) (by omega) (by omega) (by omega) (by omega)
    rw [Int.toNat_natCast, hcap] at hPK
    have hWT := fun W (h : Below W0.heap.size W0 W) => weightsOf_any F a c ra rc m n W ((hx.below b0).below h) ((hm.below b0).below h) hC
    have hwb := wts_bd hC
    have hwl := wts_len F n m
    rw [dwV] at hRR
    obtain ⟨ws, hws⟩ : ∃ ws, ws = wts F n m := ⟨_, rfl⟩
    rw [← hws] at hWT hwb hwl hRR
    have hK1 : 1 ≤ F.n ^ m.length := Nat.pow_pos (by omega)
    obtain ⟨K, hK⟩ : ∃ K, K = F.n ^ m.length := ⟨_, rfl⟩
    rw [← hK] at hQ hPK hRR hK1
    have HL := hide hL
    have HFS := hide hFS
    have HPK := hide hPK
    have HWT := hide hWT
    have HWB := hide hwb
    have HWL := Lib.hid hwl
    have BX := hide (show ∀ W, Below W0.heap.size W0 W → (Below W0.heap.size W0 W ∧ W.cell? ⟨w.heap.size, 0, none⟩ = some (.int .i64 F.p) ∧ W.cell? ⟨w.heap.size, 1, none⟩ = some (.int .i64 F.k) ∧ W.cell? ⟨w.heap.size, 2, none⟩ = some (.slice a F.poly.length c) ∧ W.cell? ⟨w.heap.size, 3, none⟩ = some (.slice ra m.length rc)) from fun W h => ⟨h, (k0.below h k0.lt).cell 0, (k0.below h k0.lt).cell 1, (k0.below h k0.lt).cell 2, (k0.below h k0.lt).cell 3⟩)
    have KB := hide (show ∀ W, Below W0.heap.size W0 W → Blk W w.heap.size 31 #[.int .i64 F.p, .int .i64 F.k, .slice a F.poly.length c, .slice ra m.length rc] from fun W h => k0.below h k0.lt)
    clear hC hL hK hcap hFS hPK hWT hwb hwl hws
    by_cases hl : capTo F.n LIM (n + m.length) ≤ LIM
    ·
      rw [if_pos hl] at hRR
      have hlb : decide ((1000000000000 : Int) < capTo F.n LIM (n + m.length)) = false := by rw [decide_eq_false_iff_not]; have : capTo F.n LIM (n + m.length) ≤ 1000000000000 := hl; omega
      have hLn := cap_sub (by omega) hl
      have HLN := hide hLn
      have HRR := Lib.hid hRR
      clear hRR hl hLn
      generalize capTo F.n LIM (n + m.length) = P at hlb hPW
      have HPW := hide hPW
      clear hPW
      have f0 := k0.cell 0
      have f1 := k0.cell 1
      have f2 := k0.cell 2
      have f3 := k0.cell 3
      go_enter Try.func21, Try.ntmps21
      go_upto_region 1 with fail
      rw [← HW.out]
      go_wp2_with fail
      refine (unhide HV).mono ?_
      rintro e w1 ⟨rfl, b1⟩
      have k1 := k0.below b1 k0.lt
      clear f0 f1 f2 f3
      have f0 := k1.cell 0
      have f1 := k1.cell 1
      have f2 := k1.cell 2
      have f3 := k1.cell 3
      have bb1 := b0.trans (b1.mono (Nat.le_of_lt sk0))
      go_upto_region 3 with fail
      go_region_held3 (fun W => Below W0.heap.size W0 W ∧ W.cell? ⟨w.heap.size, 0, none⟩ = some (.int .i64 F.p) ∧ W.cell? ⟨w.heap.size, 1, none⟩ = some (.int .i64 F.k) ∧ W.cell? ⟨w.heap.size, 2, none⟩ = some (.slice a F.poly.length c) ∧ W.cell? ⟨w.heap.size, 3, none⟩ = some (.slice ra m.length rc))
        (first | exact (unhide BX) _ b1.drew | exact (unhide BX) _ (by assumption))
        (first
          | (go_at_call 61; refine (unhide HL _ ?_).mono ?_; exact And.left (by assumption); rintro e w2 ⟨rfl, b2⟩; have hB2 := Below.chain (a := W0) (And.left (by assumption)) b2)
          | (go_at_call 67; refine (unhide HFS _).mono ?_; rintro e w3 ⟨rfl, b3⟩; have hB2 := Below.chain (a := W0) (And.left (by assumption)) b3)
          | (go_at_call 68; refine (sizeS_any _ _ _ _).mono ?_; rintro e w4 ⟨rfl, rfl⟩))
      have hBB := hB2
      have k2 := unhide KB _ hB2
      clear f0 f1 f2 f3
      have f0 := k2.cell 0
      have f1 := k2.cell 1
      have f2 := k2.cell 2
      have f3 := k2.cell 3
      have bb2 := b0.trans (hBB.mono (Nat.le_of_lt sk0))
      go_wp2_with fail
      refine (unhide HPW _).mono ?_
      rintro e w5 ⟨rfl, rfl⟩
      go_wp2_with fail
      refine (unhide HWT _ hBB).mono ?_
      rintro e w5 ⟨u, rfl, o5, b5⟩
      obtain ⟨xa, xc, rfl, r5, _⟩ := o5.form
      have c5 := Below.chain hBB b5
      have bb5 := b0.trans (c5.mono (Nat.le_of_lt sk0))
      have R5 := hide r5
      have hwl33 : ws.length ≤ 33 := by rw [HWL.out]; omega
      clear o5 r5 f0 f1 f2 f3
      go_wp2_with fail
      go_loopw [8, 34] (fun v jv wr => ∃ j : Nat, jv = .int .i64 j ∧ j ≤ n + 1 ∧ Hid (Own wr w5.heap.size v (dwL F.n K n ws j)) ∧ Below w5.heap.size w5 wr) (fun _ jv _ => n + 1 - (intOf jv).toNat)
      case atStart => exact ⟨0, rfl, Nat.zero_le _, Own.nil _ _, Below.refl _ _⟩
      case round =>
        obtain ⟨j, rfl, hj, ho, hb⟩ := hrel
        rename World => wo
        have hsz := hb.size
        by_cases hjn : j < n + 1
        · have hjb : decide ((j : Int) < (n : Int) + 1) = true := by rw [decide_eq_true_eq]; omega
          go_wp2_with fail
          go_loopw [10, 39] (fun sv iv wr => ∃ (i : Nat) (o : Int), iv = .int .i64 i ∧ sv = .int .i64 o ∧ i ≤ ws.length ∧ Hid (o = dwTo F.n n ws j i) ∧ wo = wr) (fun _ iv _ => ws.length - (intOf iv).toNat)
          case atStart => exact ⟨0, 0, rfl, rfl, Nat.zero_le _, rfl, rfl⟩
          case round =>
            obtain ⟨i, o, rfl, rfl, hi, hs, rfl⟩ := hrel
            have hob := dwTo_bd (j := j) hq2 hn32 (by omega) (unhide HLN) (unhide HWB) (i := i) (by have := HWL.out; omega)
            rw [← hs.out] at hob
            by_cases hil : i < ws.length
            · obtain ⟨gx, ox, rfl, _, hcx⟩ := ((unhide R5).below hb).at_ (by omega)
              have cx := hcx i hil
              have hx := unhide HWB i
              have hin : i ≤ n := by have := HWL.out; omega
              have hk := kR_bd hq2 (i := i) (j := j) hn32 hin (by omega) (unhide HLN)
              have hkr := fun W => krawtchouk_any F.n n i j W hq2 hq64 hn32 hin (by omega) (unhide HLN)
              have hst : dwTo F.n n ws j (i + 1) = o + nth ws i * kR F.n n i j := by rw [dwTo, hs.out]
              generalize nth ws i = x at cx hx hst
              generalize kR F.n n i j = y at hk hkr hst
              obtain ⟨h1, h2⟩ := mul_bd2 hx.1 hx.2 hk.1 hk.2
              obtain ⟨h3, h4⟩ := hob
              have HKR := hide hkr
              have HST := Lib.hid hst
              clear hkr hst hs hcx
              go_wp2_with fail
              refine (unhide HKR _).mono ?_
              rintro e w6 ⟨rfl, rfl⟩
              go_wp2
              go_roundw
              case rel => exact ⟨i + 1, o + x * y, by go_num, rfl, by omega, HST.out.symm, trivial⟩
              case measure => simp only [intOf]; omega
            · have hke : i = ws.length := by omega
              have hst := dwL_succ F.n K n ws j
              have hsl := dwL_len F.n K n ws j
              rw [show n + 1 = i by have := HWL.out; omega, ← hs.out] at hst
              have HST := Lib.hid hst
              have HSL := Lib.hid hsl
              obtain ⟨h3, h4⟩ := hob
              have z6 := hb.size
              clear hke hst hsl hs
              go_wp2_with fail
              refine (unhide HPK _).mono ?_
              rintro e w6 ⟨rfl, rfl⟩
              go_wp2_with (at_builtin; refine wpList_append_ints rfl (.tmp 54) (.tmp 60) rfl w5.heap.size u8 (dwL F.n K n ws j) [o.tdiv (K : Int)] rfl (ho.out.alloc _) _ 1 1 rfl rfl (Rd.one wo (o.tdiv (K : Int)) _) (by rw [HSL.out]; simp; omega) (by simp; omega) ?_; intro v7 w7 o7 g7 _)
              go_roundw
              case rel => exact ⟨j + 1, by go_num, by omega, by show Own _ _ _ _; rw [HST.out]; exact o7, Below.step (hb.alloc z6 _) g7 (ho.out.alloc _) (Nat.le_refl _) (by simp; omega)⟩
              case measure => simp only [intOf]; omega
        · have hje : j = n + 1 := by omega
          have HE := Lib.hid hje
          clear hje
          go_wp2
          go_ret2
          rw [HRR.out]
          exact ⟨_, rfl, by have h := ho.out; rw [HE.out] at h; exact h.mono bb5.size, bb5.trans (hb.mono bb5.size)⟩
    ·
      rw [if_neg hl] at hRR
      have hlb : decide ((1000000000000 : Int) < capTo F.n LIM (n + m.length)) = true := by rw [decide_eq_true_eq]; have : ¬ capTo F.n LIM (n + m.length) ≤ 1000000000000 := hl; omega
      have HRR := Lib.hid hRR
      clear hRR hl
      generalize capTo F.n LIM (n + m.length) = P at hlb hPW
      have HPW := hide hPW
      clear hPW
      have f0 := k0.cell 0
      have f1 := k0.cell 1
      have f2 := k0.cell 2
      have f3 := k0.cell 3
      go_enter Try.func21, Try.ntmps21
      go_upto_region 1 with fail
      rw [← HW.out]
      go_wp2_with fail
      refine (unhide HV).mono ?_
      rintro e w1 ⟨rfl, b1⟩
      have k1 := k0.below b1 k0.lt
      clear f0 f1 f2 f3
      have f0 := k1.cell 0
      have f1 := k1.cell 1
      have f2 := k1.cell 2
      have f3 := k1.cell 3
      have bb1 := b0.trans (b1.mono (Nat.le_of_lt sk0))
      go_upto_region 3 with fail
      go_region_held3 (fun W => Below W0.heap.size W0 W ∧ W.cell? ⟨w.heap.size, 0, none⟩ = some (.int .i64 F.p) ∧ W.cell? ⟨w.heap.size, 1, none⟩ = some (.int .i64 F.k) ∧ W.cell? ⟨w.heap.size, 2, none⟩ = some (.slice a F.poly.length c) ∧ W.cell? ⟨w.heap.size, 3, none⟩ = some (.slice ra m.length rc))
        (first | exact (unhide BX) _ b1.drew | exact (unhide BX) _ (by assumption))
        (first
          | (go_at_call 61; refine (unhide HL _ ?_).mono ?_; exact And.left (by assumption); rintro e w2 ⟨rfl, b2⟩; have hB2 := Below.chain (a := W0) (And.left (by assumption)) b2)
          | (go_at_call 67; refine (unhide HFS _).mono ?_; rintro e w3 ⟨rfl, b3⟩; have hB2 := Below.chain (a := W0) (And.left (by assumption)) b3)
          | (go_at_call 68; refine (sizeS_any _ _ _ _).mono ?_; rintro e w4 ⟨rfl, rfl⟩))
      have hBB := hB2
      have k2 := unhide KB _ hB2
      clear f0 f1 f2 f3
      have f0 := k2.cell 0
      have f1 := k2.cell 1
      have f2 := k2.cell 2
      have f3 := k2.cell 3
      have bb2 := b0.trans (hBB.mono (Nat.le_of_lt sk0))
      go_wp2_with fail
      refine (unhide HPW _).mono ?_
      rintro e w5 ⟨rfl, rfl⟩
      go_wp2
      go_ret2
      rw [HRR.out]
      exact ⟨_, rfl, Own.nil _ _, bb2⟩
set_option maxRecDepth 100000 in
set_option maxHeartbeats 6400000 in
theorem specDW_any (p d : Int) (a : Option Addr) (c : Nat) (xs : List Int) (ra : Option Addr) (rc : Nat) (m : List (List Int)) (w : World) (hx : Rd w a xs) (hm : RdS w ra m) : Calls Try.prog 20 #[.agg #[.int .i64 p, .int .i64 d, .slice a xs.length c, .slice ra m.length rc]] w (ResL w (dwRes p d xs m)) := by
  have hml := hm.len
  generalize hR : dwRes p d xs m = r
  obtain ⟨W0, hHW⟩ : ∃ z, z = w.alloc (.cells #[.int .i64 p, .int .i64 d, .slice a xs.length c, .slice ra m.length rc] 31) := ⟨_, rfl⟩
  have b0 : Below w.heap.size w W0 := by rw [hHW]; exact (Below.refl _ _).alloc (Nat.le_refl _) _
  have k0 : Blk W0 w.heap.size 31 #[.int .i64 p, .int .i64 d, .slice a xs.length c, .slice ra m.length rc] := by rw [hHW]; exact Blk.new _ _ _ rfl
  have sk0 : w.heap.size < W0.heap.size := k0.lt
  have HW := Lib.hid hHW
  clear hHW
  have hC0 : PC W0 w.heap.size p d a c xs ra rc m := ⟨⟨k0.cell 0, k0.cell 1, k0.cell 2, hx.below b0⟩, k0.cell 3, hm.below b0⟩
  have hV := l18Ok_any w.heap.size p d a c xs ra rc m W0 hC0
  cases hk : okC p d xs m with
  | false =>
    have HN := Lib.hid (show r = ([], 1) by rw [← hR, dwRes, hk]; rfl)
    rw [hk] at hV
    have HV := hide hV
    clear hV hk hR hC0
    have f0 := k0.cell 0
    have f1 := k0.cell 1
    have f2 := k0.cell 2
    have f3 := k0.cell 3
    go_enter Try.func20, Try.ntmps20
    go_upto_region 1 with fail
    rw [← HW.out]
    go_wp2_with fail
    refine (unhide HV).mono ?_
    rintro e w1 ⟨rfl, b1⟩
    have k1 := k0.below b1 k0.lt
    clear f0 f1 f2 f3
    have f0 := k1.cell 0
    have f1 := k1.cell 1
    have f2 := k1.cell 2
    have f3 := k1.cell 3
    have bb1 := b0.trans (b1.mono (Nat.le_of_lt sk0))
    go_wp2
    go_ret2
    rw [HN.out]
    exact ⟨_, rfl, Own.nil _ _, bb1⟩
  | true =>
    obtain ⟨F, n, rfl, rfl, rfl, hC⟩ := okC_gc hk
    have ok := hC.good.ok
    obtain ⟨n2, n64⟩ := ok.n_bd
    have hm1 := hC.m1
    have hm0 : 0 < m.length := by omega
    have hm8 := hC.m8
    have hn1 := hC.n1
    have hn32 := hC.n32
    rw [hk] at hV
    have HV := hide hV
    have hRR : r = dwV F n m := by rw [← hR, dwRes, hk, fdR_eq, hC.hn]; rfl
    clear hV hk hR
    obtain ⟨hcap, hQ⟩ := hC.cap_eq
    have hq2 : (2 : Int) ≤ F.n := by omega
    have hq64 : (F.n : Int) ≤ 64 := by omega
    have hSZ := fun W (h : Below W0.heap.size W0 W) => l03Size_qt w.heap.size F W (hC0.below h).1.pf ok
    have hPK := fun W => l18Count_any F.n m.length W (by omega) (by omega) (by omega)
    rw [Int.toNat_natCast, cnt, hcap, if_pos (by omega)] at hPK
    have hWT := fun W (h : Below W0.heap.size W0 W) => l18Weights_any w.heap.size F ra rc m n W (hC0.below h).1.pf (hC0.below h).2.1 (hC0.below h).2.2 hC
    have KB := hide (show ∀ W, Below W0.heap.size W0 W → Blk W w.heap.size 31 #[.int .i64 F.p, .int .i64 F.k, .slice a F.poly.length c, .slice ra m.length rc] from fun W h => k0.below h k0.lt)
    obtain ⟨gb, ob, ai, ci, rfl, hr0, hgb⟩ := hC0.row0 hm1
    rw [hC.hn] at hr0
    have hwb := wts_bd hC
    have hwl := wts_len F n m
    rw [dwV] at hRR
    obtain ⟨ws, hws⟩ : ∃ ws, ws = wts F n m := ⟨_, rfl⟩
    rw [← hws] at hWT hwb hwl hRR
    have hK1 : 1 ≤ F.n ^ m.length := Nat.pow_pos (by omega)
    obtain ⟨K, hK⟩ : ∃ K, K = F.n ^ m.length := ⟨_, rfl⟩
    rw [← hK] at hQ hPK hRR hK1
    have HSZ := hide hSZ
    have HPK := hide hPK
    have HWT := hide hWT
    have HWB := hide hwb
    have HWL := Lib.hid hwl
    have HRR := Lib.hid hRR
    clear hC hC0 hSZ hK hcap hPK hWT hwb hwl hws hRR
    have f0 := k0.cell 0
    have f1 := k0.cell 1
    have f2 := k0.cell 2
    have f3 := k0.cell 3
    go_enter Try.func20, Try.ntmps20
    go_upto_region 1 with fail
    rw [← HW.out]
    go_wp2_with fail
    refine (unhide HV).mono ?_
    rintro e w1 ⟨rfl, b1⟩
    have k1 := k0.below b1 k0.lt
    clear f0 f1 f2 f3
    have f0 := k1.cell 0
    have f1 := k1.cell 1
    have f2 := k1.cell 2
    have f3 := k1.cell 3
    have bb1 := b0.trans (b1.mono (Nat.le_of_lt sk0))
    have hr0 := (b1.cell (p := ⟨gb, ob, none⟩) hgb).trans hr0
    go_wp2_with fail
    refine (unhide HSZ w1 b1).mono ?_
    rintro e w2 ⟨rfl, q2⟩
    have b2 := b1.trans (q2.below _)
    have k2 := k0.below b2 k0.lt
    have hr0 := (q2.below w1.heap.size).cell (p := ⟨gb, ob, none⟩) (Nat.lt_of_lt_of_le hgb b1.size) |>.trans hr0
    clear f0 f1 f2 f3
    have f0 := k2.cell 0
    have f1 := k2.cell 1
    have f2 := k2.cell 2
    have f3 := k2.cell 3
    have bb2 := b0.trans (b2.mono (Nat.le_of_lt sk0))
    go_wp2_with fail
    go_loopw [6, 7] (fun av kv wr => ∃ k : Nat, kv = .int .i64 k ∧ av = .int .i64 (capTo F.n LIM k) ∧ k ≤ n + m.length ∧ w2 = wr) (fun _ kv _ => n + m.length - (intOf kv).toNat)
    case atStart => exact ⟨0, rfl, rfl, Nat.zero_le _, rfl⟩
    case round =>
      obtain ⟨k, rfl, rfl, hk, rfl⟩ := hrel
      have hp := capTo_pos (b := F.n) (l := LIM) (by omega) k
      have hgo : capTo F.n LIM k ≤ LIM → capTo F.n LIM (k + 1) = capTo F.n LIM k * F.n := capTo_go
      have hanti : ¬ capTo F.n LIM k ≤ LIM → ¬ capTo F.n LIM (n + m.length) ≤ LIM := fun h1 h2 => h1 (capTo_anti hk h2)
      have hend : k = n + m.length → capTo F.n LIM k ≤ LIM → capTo F.n LIM (n + m.length) ≤ LIM := fun h1 h2 => by rw [← h1]; exact h2
      have HANTI := hide hanti
      have HEND := hide hend
      have HGO := hide hgo
      clear hanti hend hgo
      obtain ⟨P, hP⟩ : ∃ P, P = capTo F.n LIM k := ⟨_, rfl⟩
      rw [← hP] at hp HANTI HEND HGO
      have HP := Lib.hid hP
      rw [← hP]
      clear hP
      by_cases hkn : k < n + m.length
      · have hkb : decide ((k : Int) < (n : Int) + (m.length : Int)) = true := by rw [decide_eq_true_eq]; omega
        by_cases hl : P ≤ LIM
        · have hlb : decide ((1000000000000 : Int) < P) = false := by rw [decide_eq_false_iff_not]; have : P ≤ 1000000000000 := hl; omega
          have hst := unhide HGO hl
          have hPb : P ≤ 1000000000000 := hl
          have h1 := Int.mul_le_mul_of_nonneg_left hq64 (show 0 ≤ P by omega)
          have h2 := Int.mul_nonneg (show 0 ≤ P by omega) (show (0 : Int) ≤ F.n by omega)
          have h3 : P * F.n ≤ 64000000000000 := by omega
          have HST := Lib.hid hst
          clear hl hst h1
          go_wp2
          go_roundw
          case rel => exact ⟨k + 1, by go_num, by rw [HST.out], by omega, trivial⟩
          case measure => simp only [intOf]; omega
        · have hlb : decide ((1000000000000 : Int) < P) = true := by rw [decide_eq_true_eq]; have : ¬ P ≤ 1000000000000 := hl; omega
          have hno := unhide HANTI hl
          have HNO := hide hno
          clear hno hl
          go_wp2
          go_ret2
          rw [HRR.out, if_neg (Int.not_le.2 (unhide HNO))]
          exact ⟨_, rfl, Own.nil _ _, bb2⟩
      · have hke : k = n + m.length := by omega
        have hkb : decide ((k : Int) < (n : Int) + (m.length : Int)) = false := by rw [decide_eq_false_iff_not]; omega
        by_cases hl : P ≤ LIM
        · have hlb : decide ((1000000000000 : Int) < P) = false := by rw [decide_eq_false_iff_not]; have : P ≤ 1000000000000 := hl; omega
          have hyes := unhide HEND hke hl
          have hLn := cap_sub (a := n) (b := m.length) (show (1 : Int) ≤ F.n by omega) hyes
          have HLN := hide hLn
          have HYES := hide hyes
          have HKE := Lib.hid hke
          clear hl hyes hLn hke
          go_wp2_with fail
          refine (unhide HWT _ b2).mono ?_
          rintro e w5 ⟨u, rfl, o5, b5⟩
          obtain ⟨xa, xc, rfl, r5, _⟩ := o5.form
          have c5 := Below.chain b2 b5
          have bb5 := b0.trans (c5.mono (Nat.le_of_lt sk0))
          have R5 := hide r5
          have hwl33 : ws.length ≤ 33 := by rw [HWL.out]; omega
          clear o5 r5 f0 f1 f2 f3
          go_wp2_with fail
          go_loopw [9, 10] (fun v jv wr => ∃ j : Nat, jv = .int .i64 j ∧ j ≤ n + 1 ∧ Hid (Own wr w5.heap.size v (dwL F.n K n ws j)) ∧ Below w5.heap.size w5 wr) (fun _ jv _ => n + 1 - (intOf jv).toNat)
          case atStart => exact ⟨0, rfl, Nat.zero_le _, Own.empty w5 (Nat.le_refl _), (Below.refl _ _).alloc (Nat.le_refl _) _⟩
          case round =>
            obtain ⟨j, rfl, hj, ho, hb⟩ := hrel
            rename World => wo
            have hsz := hb.size
            by_cases hjn : j ≤ n
            · have hjb : decide ((j : Int) ≤ (n : Int)) = true := by rw [decide_eq_true_eq]; omega
              have k3 := unhide KB _ (Below.chain c5 hb)
              have f0 := k3.cell 0
              have f1 := k3.cell 1
              have f2 := k3.cell 2
              have f3 := k3.cell 3
              go_wp2_with fail
              go_loopw [11, 12] (fun sv iv wr => ∃ (i : Nat) (o : Int), iv = .int .i64 i ∧ sv = .int .i64 o ∧ i ≤ n + 1 ∧ Hid (o = dwTo F.n n ws j i) ∧ Below wo.heap.size wo wr) (fun _ iv _ => n + 1 - (intOf iv).toNat)
              case atStart => exact ⟨0, 0, rfl, rfl, Nat.zero_le _, rfl, Below.refl _ _⟩
              case round =>
                obtain ⟨i, o, rfl, rfl, hi, hs, hb2⟩ := hrel
                have hz2 := hb2.size
                have cr := Below.chain hb hb2
                have hzr := cr.size
                have hob := dwTo_bd (j := j) hq2 hn32 (by omega) (unhide HLN) (unhide HWB) (i := i) (by omega)
                rw [← hs.out] at hob
                by_cases hin : i ≤ n
                · have hib : decide ((i : Int) ≤ (n : Int)) = true := by rw [decide_eq_true_eq]; omega
                  have hil : i < ws.length := by have := HWL.out; omega
                  obtain ⟨gx, ox, rfl, hgx, hcx⟩ := ((unhide R5).below hb).at_ (by omega)
                  have cx := hcx i hil
                  have hx := unhide HWB i
                  have hk := kR_bd hq2 (i := i) (j := j) hn32 hin (by omega) (unhide HLN)
                  have hkr := fun W => l18Term_any F.n n i j W hq2 hq64 hn32 hin (by omega) (unhide HLN)
                  have hst : dwTo F.n n ws j (i + 1) = o + nth ws i * kR F.n n i j := by rw [dwTo, hs.out]
                  generalize nth ws i = x at cx hx hst
                  generalize kR F.n n i j = y at hk hkr hst
                  obtain ⟨h1, h2⟩ := mul_bd2 hx.1 hx.2 hk.1 hk.2
                  obtain ⟨h3, h4⟩ := hob
                  have hw1 : IntKind.i64.wrap (x * y) = x * y := IntWalk.i64_in _ (by omega)
                  have hw2 : IntKind.i64.wrap (o + x * y) = o + x * y := IntWalk.i64_in _ (by omega)
                  have HKR := hide hkr
                  have HST := Lib.hid hst
                  have BX := hide (show ∀ W, Below wo.heap.size wo W → (Below wo.heap.size wo W ∧ W.cell? ⟨gx, ox + i, none⟩ = some (.int .i64 x)) from fun W h => ⟨h, (h.cell (p := ⟨gx, ox + i, none⟩) hgx).trans cx⟩)
                  clear hkr hst hs hcx
                  go_upto_region 23 with fail
                  refine wp_region_noPanic ?_
                  refine wp_region_ord (S := (fun W => Below wo.heap.size wo W ∧ W.cell? ⟨gx, ox + i, none⟩ = some (.int .i64 x))) [(true, 0), (true, 1), (true, 2), (true, 3), (true, 4), (true, 5), (true, 6), (true, 7), (true, 8), (false, 9), (true, 10), (true, 11), (true, 12)] (by kernel_rfl) (by kernel_rfl) (by kernel_rfl) rfl (fun _ _ _ _ _ h => h) ?_ (fun hHeld => ?_)
                  · exact (unhide BX) _ hb2.drew
                  refine SeqO.take (by rfl) (v := ?hv1) (by rfl) ?hy1 ?hr1
                  case hy1 =>
                    intro w hSw
                    try dsimp only at hSw
                    go_simp
                    try (with_reducible rfl)
                  try simp only [Act.put, List.setIfInBounds_toArray, List.set_cons_zero, List.set_cons_succ]
                  refine SeqO.take (by rfl) (v := ?hv2) (by rfl) ?hy2 ?hr2
                  case hy2 =>
                    intro w hSw
                    try dsimp only at hSw
                    go_simp
                    try (with_reducible rfl)
                  try simp only [Act.put, List.setIfInBounds_toArray, List.set_cons_zero, List.set_cons_succ]
                  refine SeqO.take (by rfl) (v := ?hv3) (by rfl) ?hy3 ?hr3
                  case hy3 =>
                    intro w hSw
                    try dsimp only at hSw
                    go_simp
                    try (with_reducible rfl)
                  try simp only [Act.put, List.setIfInBounds_toArray, List.set_cons_zero, List.set_cons_succ]
                  refine SeqO.take (by rfl) (v := ?hv4) (by rfl) ?hy4 ?hr4
                  case hy4 =>
                    intro w hSw
                    try dsimp only at hSw
                    go_simp
                    try (with_reducible rfl)
                  try simp only [Act.put, List.setIfInBounds_toArray, List.set_cons_zero, List.set_cons_succ]
                  refine SeqO.take (by rfl) (v := ?hv5) (by rfl) ?hy5 ?hr5
                  case hy5 =>
                    intro w hSw
                    try dsimp only at hSw
                    go_simp
                    try (with_reducible rfl)
                  try simp only [Act.put, List.setIfInBounds_toArray, List.set_cons_zero, List.set_cons_succ]
                  refine SeqO.take (by rfl) (v := ?hv6) (by rfl) ?hy6 ?hr6
                  case hy6 =>
                    intro w hSw
                    try dsimp only at hSw
                    go_simp
                    try (with_reducible rfl)
                  try simp only [Act.put, List.setIfInBounds_toArray, List.set_cons_zero, List.set_cons_succ]
                  refine SeqO.take (by rfl) (v := ?hv7) (by rfl) ?hy7 ?hr7
                  case hy7 =>
                    intro w hSw
                    try dsimp only at hSw
                    go_simp
                    try (with_reducible rfl)
                  try simp only [Act.put, List.setIfInBounds_toArray, List.set_cons_zero, List.set_cons_succ]
                  refine SeqO.take (by rfl) (v := ?hv8) (by rfl) ?hy8 ?hr8
                  case hy8 =>
                    intro w hSw
                    try dsimp only at hSw
                    go_simp
                    try (with_reducible rfl)
                  try simp only [Act.put, List.setIfInBounds_toArray, List.set_cons_zero, List.set_cons_succ]
                  refine SeqO.take (by rfl) (v := ?hv9) (by rfl) ?hy9 ?hr9
                  case hy9 =>
                    intro w hSw
                    try dsimp only at hSw
                    go_simp
                    try (with_reducible rfl)
                  try simp only [Act.put, List.setIfInBounds_toArray, List.set_cons_zero, List.set_cons_succ]
                  refine SeqO.call (by rfl) (fun K hK => ?_)
                  go_simp
                  refine (unhide HKR _).mono ?_
                  rintro e w6 ⟨rfl, rfl⟩
                  go_wp2_with fail
                  refine hK.out _ _ ?_ (fun hHeld => ?_)
                  · exact hHeld
                  clear hK K
                  try simp only [Act.put, List.setIfInBounds_toArray, List.set_cons_zero, List.set_cons_succ]
                  refine SeqO.take (by rfl) (v := ?hv10) (by rfl) ?hy10 ?hr10
                  case hy10 =>
                    intro w hSw
                    try dsimp only at hSw
                    go_simp
                    try (with_reducible rfl)
                  try simp only [Act.put, List.setIfInBounds_toArray, List.set_cons_zero, List.set_cons_succ]
                  refine SeqO.take (by rfl) (v := ?hv11) (by rfl) ?hy11 ?hr11
                  case hy11 =>
                    intro w hSw
                    try dsimp only at hSw
                    go_simp
                    try (with_reducible rfl)
                  try simp only [Act.put, List.setIfInBounds_toArray, List.set_cons_zero, List.set_cons_succ]
                  refine SeqO.take (by rfl) (v := ?hv12) (by rfl) ?hy12 ?hr12
                  case hy12 =>
                    intro w hSw
                    try dsimp only at hSw
                    go_simp
                    try (with_reducible rfl)
                  try simp only [Act.put, List.setIfInBounds_toArray, List.set_cons_zero, List.set_cons_succ]
                  refine SeqO.done (NoPanic.normal ?_)
                  go_wp2
                  go_roundw
                  case rel => exact ⟨i + 1, o + x * y, by go_num, rfl, by omega, HST.out.symm, And.left hHeld⟩
                  case measure => simp only [intOf]; omega
                · have hib : decide ((i : Int) ≤ (n : Int)) = false := by rw [decide_eq_false_iff_not]; omega
                  have hke : i = n + 1 := by omega
                  have hst := dwL_succ F.n K n ws j
                  have hsl := dwL_len F.n K n ws j
                  rw [show n + 1 = i by omega, ← hs.out] at hst
                  have HST := Lib.hid hst
                  have HSL := Lib.hid hsl
                  obtain ⟨h3, h4⟩ := hob
                  have k4 := unhide KB _ (Below.chain c5 cr)
                  have o6 := ho.out.below hb2 (Nat.le_refl _)
                  clear f0 f1 f2 f3
                  have f0 := k4.cell 0
                  have f1 := k4.cell 1
                  have f2 := k4.cell 2
                  have f3 := k4.cell 3
                  clear hke hst hsl hs
                  go_wp2_with fail
                  refine (unhide HPK _).mono ?_
                  rintro e w6 ⟨rfl, rfl⟩
                  go_wp2_with (at_builtin; refine wpList_append_ints rfl (.tmp 62) (.tmp 70) rfl w5.heap.size u9 (dwL F.n K n ws j) [o.tdiv (K : Int)] rfl (o6.alloc _) _ 1 1 rfl rfl (Rd.one wr (o.tdiv (K : Int)) _) (by rw [HSL.out]; simp; omega) (by simp; omega) ?_; intro v7 w7 o7 g7 _)
                  go_roundw
                  case rel => exact ⟨j + 1, by go_num, by omega, by show Own _ _ _ _; rw [HST.out]; exact o7, Below.step (cr.alloc hzr _) g7 (o6.alloc _) (Nat.le_refl _) (by simp; omega)⟩
                  case measure => simp only [intOf]; omega
            · have hjb : decide ((j : Int) ≤ (n : Int)) = false := by rw [decide_eq_false_iff_not]; omega
              have hje : j = n + 1 := by omega
              have HE := Lib.hid hje
              clear hje
              go_wp2
              go_ret2
              rw [HRR.out, if_pos (unhide HYES)]
              exact ⟨_, rfl, by have h := ho.out; rw [HE.out] at h; exact h.mono bb5.size, bb5.trans (hb.mono bb5.size)⟩
        · have hlb : decide ((1000000000000 : Int) < P) = true := by rw [decide_eq_true_eq]; have : ¬ P ≤ 1000000000000 := hl; omega
          have hno := unhide HANTI hl
          have HNO := hide hno
          clear hno hl
          go_wp2
          go_ret2
          rw [HRR.out, if_neg (Int.not_le.2 (unhide HNO))]
          exact ⟨_, rfl, Own.nil _ _, bb2⟩
end Go.Proofs.Ytcblhjhabhjbkaa

