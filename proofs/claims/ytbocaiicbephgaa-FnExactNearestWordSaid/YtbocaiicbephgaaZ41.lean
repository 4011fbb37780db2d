/-
  Walks: NearestWord on both sides. Printed by gen_near.py.
-/
import Derived.BigQuiet
import Derived.BigRegion
import Derived.ChangeOld
import Derived.Deep.DeepCutAuto
import Derived.Deep.DeepMust
import Derived.Deep.DrawnRows
import Derived.Deep.Draws
import Derived.Deep.OwnRows
import Derived.Deep.QuietTactic
import Derived.Deep.RegionHeld3
import Derived.Deep.Slices
import Derived.IntWalk
import Derived.Laws.Rows
import Derived.Lib.Hide
import Derived.Maps.AppendAt
import Derived.OpenShut
import Derived.OwnWalk
import Derived.ProofKit
import Derived.ShutString
import Derived.StillTailTactics
import Derived.Test.YtbocaiicbephgaaProg
import Derived.Test.YtbocaiicbephgaaRows
import Derived.WalkKit
import Derived.WalkLawsBesides
import Derived.WalkSpells
import Derived.Test.YtbocaiicbephgaaZ18
import Derived.Test.YtbocaiicbephgaaZ26
import Derived.Test.YtbocaiicbephgaaZ30
import Derived.Test.YtbocaiicbephgaaZ37
set_option linter.unusedVariables false
set_option linter.unusedSimpArgs false
namespace Go.Proofs.Ytbocaiicbephgaa
open Go.RowKit
attribute [local go_sem ↓] Go.wp_at_zero Go.wp_at_succ
/-- The first of the first k words that is nearest. -/
def nearI (wds : List (List Int)) (v : List Int) (n : Nat) : Nat → Nat
  | 0 => 0
  | k + 1 => if apartTo (nthL wds k) v n < apartTo (nthL wds (nearI wds v n k)) v n then k else nearI wds v n k
theorem nearI_lt (wds : List (List Int)) (v : List Int) (n : Nat) {k : Nat} (hk : 1 ≤ k) : nearI wds v n k < k := by
  induction k with
  | zero => omega
  | succ k ih =>
    rw [nearI]
    split
    · omega
    · rcases Nat.eq_zero_or_pos k with h | h
      · subst h; rw [nearI]; omega
      · have := ih h; omega
theorem nearI_one (wds : List (List Int)) (v : List Int) (n : Nat) : nearI wds v n 1 = 0 := by rw [nearI]; simp [nearI]
def nearV (F : FD) (n : Nat) (m : List (List Int)) (v : List Int) : List Int × Int × Int :=
  (nthL (wordsTo F n m m.length) (nearI (wordsTo F n m m.length) v n (wordsTo F n m m.length).length), (apartTo (nthL (wordsTo F n m m.length) (nearI (wordsTo F n m m.length) v n (wordsTo F n m m.length).length)) v n : Int), 0)
noncomputable def nearRes (p d : Int) (xs : List Int) (m : List (List Int)) (v : List Int) : List Int × Int × Int :=
  if okV p d xs m v = true then (if v.length = (nthL m 0).length then nearV (fdR p d xs) (nthL m 0).length m v else ([], 0, 6)) else ([], 0, 1)
def ResLii (w : World) (r : List Int × Int × Int) (e : Ending) (w' : World) : Prop := ∃ v, e = .returned (.tuple #[v, .int .i64 r.2.1, .int .i64 r.2.2]) ∧ Own w' w.heap.size v r.1 ∧ Below w.heap.size w w'
theorem GC.words_pos {F : FD} {n : Nat} {m : List (List Int)} (h : GC F n m) : 1 ≤ (wordsTo F n m m.length).length ∧ (wordsTo F n m m.length).length ≤ 4096 := by
  have n2 := h.good.ok.n_bd
  rw [wordsTo_len]
  exact ⟨Nat.pow_pos (by omega), h.cap_eq.2⟩
set_option maxRecDepth 100000 in
set_option maxHeartbeats 3200000 in
theorem specNW_any (p d : Int) (a : Option Addr) (c : Nat) (xs : List Int) (ra : Option Addr) (rc : Nat) (m : List (List Int)) (b : Option Addr) (cb : Nat) (v : List Int) (w : World) (hx : Rd w a xs) (hm : RdS w ra m) (hy : Rd w b v) : Calls Try.prog 36 #[.agg #[.int .i64 p, .int .i64 d, .slice a xs.length c, .slice ra m.length rc], .slice b v.length cb] w (ResLii w (nearRes p d xs m v)) := by
  have hml := hm.len
  have hvl0 := hy.len
  generalize hR : nearRes p d xs m v = r
  obtain ⟨W0, hHW⟩ : ∃ z, z = w.alloc (.cells #[.int .i64 p, .int .i64 d, .slice a xs.length c, .slice ra m.length rc] 33) := ⟨_, rfl⟩
  have b0 : Below w.heap.size w W0 := by rw [hHW]; exact (Below.refl _ _).alloc (Nat.le_refl _) _
  have k0 : Blk W0 w.heap.size 33 #[.int .i64 p, .int .i64 d, .slice a xs.length c, .slice ra m.length rc] := by rw [hHW]; exact Blk.new _ _ _ rfl
  have sk0 : w.heap.size < W0.heap.size := k0.lt
  have HW := Lib.hid hHW
  clear hHW
  have hC0 : PC W0 w.heap.size p d a c xs ra rc m := ⟨⟨k0.cell 0, k0.cell 1, k0.cell 2, hx.below b0⟩, k0.cell 3, hm.below b0⟩
  have hV := l18Ok_any w.heap.size p d a c xs ra rc m W0 hC0
  cases hk : okC p d xs m with
  | false =>
    have HN := Lib.hid (show r = ([], 0, 1) by rw [← hR, nearRes, okV, hk]; rfl)
    rw [hk] at hV
    have HV := hide hV
    clear hV hk hR hC0
    have f0 := k0.cell 0
    have f1 := k0.cell 1
    have f2 := k0.cell 2
    have f3 := k0.cell 3
    go_enter Try.func36, Try.ntmps36
    go_upto_region 1 with fail
    rw [← HW.out]
    go_wp2_with fail
    refine (unhide HV).mono ?_
    rintro e w1 ⟨rfl, b1⟩
    have k1 := k0.below b1 k0.lt
    clear f0 f1 f2 f3
    have f0 := k1.cell 0
    have f1 := k1.cell 1
    have f2 := k1.cell 2
    have f3 := k1.cell 3
    have bb1 := b0.trans (b1.mono (Nat.le_of_lt sk0))
    go_wp2
    go_ret3
    rw [HN.out]
    exact ⟨_, rfl, Own.nil _ _, bb1⟩
  | true =>
    obtain ⟨F, n, rfl, rfl, rfl, hC⟩ := okC_gc hk
    have ok := hC.good.ok
    obtain ⟨n2, n64⟩ := ok.n_bd
    have hE := fun W (h : Below W0.heap.size W0 W) => l17Vector_any w.heap.size F b cb v W (hC0.below h).1.pf ok ((hy.below b0).below h)
    rw [hk] at hV
    have HV := hide hV
    cases he : elems F.n v with
    | false =>
      have HN := Lib.hid (show r = ([], 0, 1) by rw [← hR, nearRes, okV, hk, fdR_eq, he]; rfl)
      rw [he] at hE
      have HE := hide hE
      clear hV hk hE he hC0
      have f0 := k0.cell 0
      have f1 := k0.cell 1
      have f2 := k0.cell 2
      have f3 := k0.cell 3
      go_enter Try.func36, Try.ntmps36
      go_upto_region 1 with fail
      rw [← HW.out]
      go_wp2_with fail
      refine (unhide HV).mono ?_
      rintro e w1 ⟨rfl, b1⟩
      have k1 := k0.below b1 k0.lt
      clear f0 f1 f2 f3
      have f0 := k1.cell 0
      have f1 := k1.cell 1
      have f2 := k1.cell 2
      have f3 := k1.cell 3
      have bb1 := b0.trans (b1.mono (Nat.le_of_lt sk0))
      go_wp2_with fail
      refine (unhide HE w1 b1).mono ?_
      rintro e w2 ⟨rfl, q2⟩
      have b2 := b1.trans (q2.below _)
      have k2 := k0.below b2 k0.lt
      clear f0 f1 f2 f3
      have f0 := k2.cell 0
      have f1 := k2.cell 1
      have f2 := k2.cell 2
      have f3 := k2.cell 3
      have bb2 := b0.trans (b2.mono (Nat.le_of_lt sk0))
      go_wp2
      go_ret3
      rw [HN.out]
      exact ⟨_, rfl, Own.nil _ _, bb2⟩
    | true =>
      rw [he] at hE
      have HE := hide hE
      have hRR : r = if v.length = n then nearV F n m v else ([], 0, 6) := by rw [← hR, nearRes, okV, hk, fdR_eq, he, hC.hn]; rfl
      have hEl := elems_iff he
      clear hV hk hE he hR
      have hm1 := hC.m1
      have hm0 : 0 < m.length := by omega
      have hm8 := hC.m8
      have hn1 := hC.n1
      have hn32 := hC.n32
      obtain ⟨gb, ob, ai, ci, rfl, hr0, hgb⟩ := hC0.row0 hm1
      rw [hC.hn] at hr0
      by_cases hle : v.length = n
      ·
        rw [if_pos hle] at hRR
        have HRR := Lib.hid hRR
        have hbq : ((v.length : Int) != (n : Int)) = false := by rw [hle]; simp
        clear hRR
        have hW := fun W (h : Below W0.heap.size W0 W) => l18Words_any w.heap.size F (some ⟨gb, ob, none⟩) rc m n W (hC0.below h).1.pf (hC0.below h).2.1 (hC0.below h).2.2 hC
        obtain ⟨hw1, hw2⟩ := hC.words_pos
        have hel := fun k hk => wordsTo_el ok n m (k := k) hk
        have hnv : nearV F n m v = (nthL (wordsTo F n m m.length) (nearI (wordsTo F n m m.length) v n (wordsTo F n m m.length).length), (apartTo (nthL (wordsTo F n m m.length) (nearI (wordsTo F n m m.length) v n (wordsTo F n m m.length).length)) v n : Int), 0) := rfl
        obtain ⟨wds, hwds⟩ : ∃ wds, wds = wordsTo F n m m.length := ⟨_, rfl⟩
        rw [← hwds] at hW hel hw1 hw2 hnv
        have hAP : ∀ (k : Nat) (_ : k < wds.length) ak ck W (_ : Below W0.heap.size W0 W) (_ : Rd W ak (nthL wds k)), Calls Try.prog 70 #[.slice ak n ck, .slice b v.length cb] W fun e w' => e = .returned (.int .i64 (apartTo (nthL wds k) v n : Nat)) ∧ Below W.heap.size W w' := fun k hk ak ck W h hr => by
          have hl := (hel k hk).1
          have h2 := l18Apart_any ak b ck cb (nthL wds k) v W hr ((hy.below b0).below h) (by rw [hl, hle])
          rw [hl] at h2
          exact h2
        have HWW := hide hW
        have HAP := hide hAP
        have HEL := hide hel
        have HNV := Lib.hid hnv
        clear hW hAP hel hnv hwds hEl
        have HLN := Lib.hid hle
        clear hle hC hC0
        have f0 := k0.cell 0
        have f1 := k0.cell 1
        have f2 := k0.cell 2
        have f3 := k0.cell 3
        go_enter Try.func36, Try.ntmps36
        go_upto_region 1 with fail
        rw [← HW.out]
        go_wp2_with fail
        refine (unhide HV).mono ?_
        rintro e w1 ⟨rfl, b1⟩
        have k1 := k0.below b1 k0.lt
        clear f0 f1 f2 f3
        have f0 := k1.cell 0
        have f1 := k1.cell 1
        have f2 := k1.cell 2
        have f3 := k1.cell 3
        have bb1 := b0.trans (b1.mono (Nat.le_of_lt sk0))
        go_wp2_with fail
        refine (unhide HE w1 b1).mono ?_
        rintro e w2 ⟨rfl, q2⟩
        have b2 := b1.trans (q2.below _)
        have k2 := k0.below b2 k0.lt
        clear f0 f1 f2 f3
        have f0 := k2.cell 0
        have f1 := k2.cell 1
        have f2 := k2.cell 2
        have f3 := k2.cell 3
        have bb2 := b0.trans (b2.mono (Nat.le_of_lt sk0))
        have hr0 := (b2.cell (p := ⟨gb, ob, none⟩) hgb).trans hr0
        go_wp2_with fail
        refine (unhide HWW w2 b2).mono ?_
        rintro e w3 ⟨u, rfl, o3, b3⟩
        obtain ⟨ax, cx, rfl, r3⟩ := o3.form
        obtain ⟨gw, ow, rfl, hgw, hcw⟩ := r3.at_ (by omega)
        have c3 := Below.chain b2 b3
        have bb3 := b0.trans (c3.mono (Nat.le_of_lt sk0))
        have hcw2 : ∀ k, k < wds.length → ∃ ak ck, w3.cell? ⟨gw, ow + k, none⟩ = some (.slice ak n ck) ∧ Rd w3 ak (nthL wds k) := fun k hk => by
          obtain ⟨ak, ck, h1, h2⟩ := hcw k hk
          rw [(unhide HEL k hk).1] at h1
          exact ⟨ak, ck, h1, h2⟩
        have HCW := hide hcw2
        have O3 := hide o3
        clear o3 r3 hcw hcw2 f0 f1 f2 f3
        go_wp2_with fail
        go_loopw [8, 9] (fun jv iv wr => ∃ k : Nat, iv = .int .i64 k ∧ jv = .int .i64 (nearI wds v n k : Nat) ∧ 1 ≤ k ∧ k ≤ wds.length ∧ Below w3.heap.size w3 wr) (fun _ iv _ => wds.length - (intOf iv).toNat)
        case atStart => exact ⟨1, rfl, by rw [nearI_one]; rfl, Nat.le_refl _, hw1, Below.refl _ _⟩
        case round =>
          obtain ⟨k, rfl, rfl, hk1, hk, hb⟩ := hrel
          have hsz := hb.size
          have hjk := nearI_lt wds v n hk1
          have hst : nearI wds v n (k + 1) = if apartTo (nthL wds k) v n < apartTo (nthL wds (nearI wds v n k)) v n then k else nearI wds v n k := rfl
          obtain ⟨j, hj⟩ : ∃ j, j = nearI wds v n k := ⟨_, rfl⟩
          rw [← hj] at hjk hst ⊢
          obtain ⟨aj, cj, hj1, hjr⟩ := unhide HCW j (by omega)
          have hB := fun W (h : Below w3.heap.size w3 W) => unhide HAP j (by omega) aj cj W (Below.chain c3 h) (hjr.below h)
          by_cases hkl : k < wds.length
          · obtain ⟨ak, ck, hk2, hkr⟩ := unhide HCW k hkl
            have hA := fun W (h : Below w3.heap.size w3 W) => unhide HAP k hkl ak ck W (Below.chain c3 h) (hkr.below h)
            obtain ⟨D1, hD1⟩ : ∃ D1, D1 = apartTo (nthL wds k) v n := ⟨_, rfl⟩
            obtain ⟨D2, hD2⟩ : ∃ D2, D2 = apartTo (nthL wds j) v n := ⟨_, rfl⟩
            rw [← hD1] at hA hst
            rw [← hD2] at hB hst
            have HA := hide hA
            have HB := hide hB
            have BX := hide (show ∀ W, Below w3.heap.size w3 W → (Below w3.heap.size w3 W ∧ W.cell? ⟨gw, ow + k, none⟩ = some (.slice ak n ck) ∧ W.cell? ⟨gw, ow + j, none⟩ = some (.slice aj n cj)) from fun W h => ⟨h, (h.cell (p := ⟨gw, ow + k, none⟩) hgw).trans hk2, (h.cell (p := ⟨gw, ow + j, none⟩) hgw).trans hj1⟩)
            have hjl : j < wds.length := by omega
            clear hA hB hD1 hD2 hjr hkr
            by_cases hlt : D1 < D2
            · rw [if_pos hlt] at hst
              have hlb : decide ((D1 : Int) < (D2 : Int)) = true := by rw [decide_eq_true_eq]; omega
              have hlc : decide (D1 < D2) = true := by rw [decide_eq_true_eq]; omega
              have HST := Lib.hid hst
              have HJ := Lib.hid hj
              clear hst hj
              go_upto_region 10 with fail
              go_region_held3 (fun W => Below w3.heap.size w3 W ∧ W.cell? ⟨gw, ow + k, none⟩ = some (.slice ak n ck) ∧ W.cell? ⟨gw, ow + j, none⟩ = some (.slice aj n cj))
                (first | exact (unhide BX) _ hb.drew | exact (unhide BX) _ (by assumption))
                (first
                  | (go_at_call_of 70 (Value.slice ak n ck); refine (unhide HA _ ?_).mono ?_; exact And.left (by assumption); rintro e w4 ⟨rfl, b4⟩; have hB4 := Below.chain (a := w3) (And.left (by assumption)) b4)
                  | (go_at_call_of 70 (Value.slice aj n cj); refine (unhide HB _ ?_).mono ?_; exact And.left (by assumption); rintro e w4 ⟨rfl, b4⟩; have hB4 := Below.chain (a := w3) (And.left (by assumption)) b4))
              all_goals
                have hb4 := hB4
                go_wp2
                go_roundw
                case rel => exact ⟨k + 1, by go_num, by rw [HST.out], by omega, by omega, hb4⟩
                case measure => simp only [intOf]; omega
            · rw [if_neg hlt] at hst
              have hlb : decide ((D1 : Int) < (D2 : Int)) = false := by rw [decide_eq_false_iff_not]; omega
              have hlc : decide (D1 < D2) = false := by rw [decide_eq_false_iff_not]; omega
              have HST := Lib.hid hst
              have HJ := Lib.hid hj
              clear hst hj
              go_upto_region 10 with fail
              go_region_held3 (fun W => Below w3.heap.size w3 W ∧ W.cell? ⟨gw, ow + k, none⟩ = some (.slice ak n ck) ∧ W.cell? ⟨gw, ow + j, none⟩ = some (.slice aj n cj))
                (first | exact (unhide BX) _ hb.drew | exact (unhide BX) _ (by assumption))
                (first
                  | (go_at_call_of 70 (Value.slice ak n ck); refine (unhide HA _ ?_).mono ?_; exact And.left (by assumption); rintro e w4 ⟨rfl, b4⟩; have hB4 := Below.chain (a := w3) (And.left (by assumption)) b4)
                  | (go_at_call_of 70 (Value.slice aj n cj); refine (unhide HB _ ?_).mono ?_; exact And.left (by assumption); rintro e w4 ⟨rfl, b4⟩; have hB4 := Below.chain (a := w3) (And.left (by assumption)) b4))
              all_goals
                have hb4 := hB4
                go_wp2
                go_roundw
                case rel => exact ⟨k + 1, by go_num, by rw [HST.out], by omega, by omega, hb4⟩
                case measure => simp only [intOf]; omega
          · have hke : k = wds.length := by omega
            have HE := Lib.hid hke
            have hnv := HNV.out
            rw [← hke, ← hj] at hnv
            obtain ⟨D2, hD2⟩ : ∃ D2, D2 = apartTo (nthL wds j) v n := ⟨_, rfl⟩
            rw [← hD2] at hB hnv
            have HB := hide hB
            have HV := Lib.hid hnv
            have BX := hide (show ∀ W, Below w3.heap.size w3 W → (Below w3.heap.size w3 W ∧ W.cell? ⟨gw, ow + j, none⟩ = some (.slice aj n cj)) from fun W h => ⟨h, (h.cell (p := ⟨gw, ow + j, none⟩) hgw).trans hj1⟩)
            have hjl : j < wds.length := by omega
            obtain ⟨ar, cr, orow, hrow, _⟩ := (unhide O3).row hjl
            have hrow := hrow _ _ _ _ rfl
            rw [hj1] at hrow
            injection hrow with hrow
            injection hrow with e1 e2 e3
            rw [← e1, ← e2, ← e3] at orow
            have OR := hide orow
            clear hB hD2 hnv hke hj hjr orow e1 e2 e3 hst
            go_upto_region 12 with fail
            refine wp_region_noPanic ?_
            refine wp_region_ord (S := (fun W => Below w3.heap.size w3 W ∧ W.cell? ⟨gw, ow + j, none⟩ = some (.slice aj n cj))) [(true, 0), (true, 1), (true, 2), (true, 3), (true, 4), (true, 5), (true, 6), (true, 7), (true, 8), (false, 9), (true, 10), (true, 11), (true, 12)] (by kernel_rfl) (by kernel_rfl) (by kernel_rfl) rfl (fun _ _ _ _ _ h => h) ?_ (fun hHeld => ?_)
            · exact (unhide BX) _ hb.drew
            refine SeqO.take (by rfl) (v := ?hv1) (by rfl) ?hy1 ?hr1
            case hy1 =>
              intro w hSw
              try dsimp only at hSw
              go_simp
              try (with_reducible rfl)
            try simp only [Act.put, List.setIfInBounds_toArray, List.set_cons_zero, List.set_cons_succ]
            refine SeqO.take (by rfl) (v := ?hv2) (by rfl) ?hy2 ?hr2
            case hy2 =>
              intro w hSw
              try dsimp only at hSw
              go_simp
              try (with_reducible rfl)
            try simp only [Act.put, List.setIfInBounds_toArray, List.set_cons_zero, List.set_cons_succ]
            refine SeqO.take (by rfl) (v := ?hv3) (by rfl) ?hy3 ?hr3
            case hy3 =>
              intro w hSw
              try dsimp only at hSw
              go_simp
              try (with_reducible rfl)
            try simp only [Act.put, List.setIfInBounds_toArray, List.set_cons_zero, List.set_cons_succ]
            refine SeqO.take (by rfl) (v := ?hv4) (by rfl) ?hy4 ?hr4
            case hy4 =>
              intro w hSw
              try dsimp only at hSw
              go_simp
              try (with_reducible rfl)
            try simp only [Act.put, List.setIfInBounds_toArray, List.set_cons_zero, List.set_cons_succ]
            refine SeqO.take (by rfl) (v := ?hv5) (by rfl) ?hy5 ?hr5
            case hy5 =>
              intro w hSw
              try dsimp only at hSw
              go_simp
              try (with_reducible rfl)
            try simp only [Act.put, List.setIfInBounds_toArray, List.set_cons_zero, List.set_cons_succ]
            refine SeqO.take (by rfl) (v := ?hv6) (by rfl) ?hy6 ?hr6
            case hy6 =>
              intro w hSw
              try dsimp only at hSw
              go_simp
              try (with_reducible rfl)
            try simp only [Act.put, List.setIfInBounds_toArray, List.set_cons_zero, List.set_cons_succ]
            refine SeqO.take (by rfl) (v := ?hv7) (by rfl) ?hy7 ?hr7
            case hy7 =>
              intro w hSw
              try dsimp only at hSw
              go_simp
              try (with_reducible rfl)
            try simp only [Act.put, List.setIfInBounds_toArray, List.set_cons_zero, List.set_cons_succ]
            refine SeqO.take (by rfl) (v := ?hv8) (by rfl) ?hy8 ?hr8
            case hy8 =>
              intro w hSw
              try dsimp only at hSw
              go_simp
              try (with_reducible rfl)
            try simp only [Act.put, List.setIfInBounds_toArray, List.set_cons_zero, List.set_cons_succ]
            refine SeqO.take (by rfl) (v := ?hv9) (by rfl) ?hy9 ?hr9
            case hy9 =>
              intro w hSw
              try dsimp only at hSw
              go_simp
              try (with_reducible rfl)
            try simp only [Act.put, List.setIfInBounds_toArray, List.set_cons_zero, List.set_cons_succ]
            refine SeqO.call (by rfl) (fun K hK => ?_)
            go_simp
            refine (unhide HB _ (And.left hHeld)).mono ?_
            rintro e w4 ⟨rfl, b4⟩
            have hB4 := Below.chain (a := w3) (And.left hHeld) b4
            go_wp2_with fail
            refine hK.out _ _ ?_ (fun hHeld => ?_)
            · exact (unhide BX) _ hB4
            clear hK K
            try simp only [Act.put, List.setIfInBounds_toArray, List.set_cons_zero, List.set_cons_succ]
            refine SeqO.take (by rfl) (v := ?hv10) (by rfl) ?hy10 ?hr10
            case hy10 =>
              intro w hSw
              try dsimp only at hSw
              go_simp
              try (with_reducible rfl)
            try simp only [Act.put, List.setIfInBounds_toArray, List.set_cons_zero, List.set_cons_succ]
            refine SeqO.take (by rfl) (v := ?hv11) (by rfl) ?hy11 ?hr11
            case hy11 =>
              intro w hSw
              try dsimp only at hSw
              go_simp
              try (with_reducible rfl)
            try simp only [Act.put, List.setIfInBounds_toArray, List.set_cons_zero, List.set_cons_succ]
            refine SeqO.take (by rfl) (v := ?hv12) (by rfl) ?hy12 ?hr12
            case hy12 =>
              intro w hSw
              try dsimp only at hSw
              go_simp
              try (with_reducible rfl)
            try simp only [Act.put, List.setIfInBounds_toArray, List.set_cons_zero, List.set_cons_succ]
            refine SeqO.done (NoPanic.normal ?_)
            go_wp2
            go_ret3
            rw [HRR.out, HV.out]
            exact ⟨_, rfl, ((unhide OR).below hB4 (Nat.le_refl _)).mono bb2.size, bb3.trans (hB4.mono bb3.size)⟩
      ·
        rw [if_neg hle] at hRR
        have HN := Lib.hid hRR
        have hbq : ((v.length : Int) != (n : Int)) = true := by rw [bne_iff_ne]; omega
        clear hRR hle hEl hC hC0
        have f0 := k0.cell 0
        have f1 := k0.cell 1
        have f2 := k0.cell 2
        have f3 := k0.cell 3
        go_enter Try.func36, Try.ntmps36
        go_upto_region 1 with fail
        rw [← HW.out]
        go_wp2_with fail
        refine (unhide HV).mono ?_
        rintro e w1 ⟨rfl, b1⟩
        have k1 := k0.below b1 k0.lt
        clear f0 f1 f2 f3
        have f0 := k1.cell 0
        have f1 := k1.cell 1
        have f2 := k1.cell 2
        have f3 := k1.cell 3
        have bb1 := b0.trans (b1.mono (Nat.le_of_lt sk0))
        go_wp2_with fail
        refine (unhide HE w1 b1).mono ?_
        rintro e w2 ⟨rfl, q2⟩
        have b2 := b1.trans (q2.below _)
        have k2 := k0.below b2 k0.lt
        clear f0 f1 f2 f3
        have f0 := k2.cell 0
        have f1 := k2.cell 1
        have f2 := k2.cell 2
        have f3 := k2.cell 3
        have bb2 := b0.trans (b2.mono (Nat.le_of_lt sk0))
        have hr0 := (b2.cell (p := ⟨gb, ob, none⟩) hgb).trans hr0
        go_wp2
        go_ret3
        rw [HN.out]
        exact ⟨_, rfl, Own.nil _ _, bb2⟩
set_option maxRecDepth 100000 in
set_option maxHeartbeats 3200000 in
theorem implNW_any (p d : Int) (a : Option Addr) (c : Nat) (xs : List Int) (ra : Option Addr) (rc : Nat) (m : List (List Int)) (b : Option Addr) (cb : Nat) (v : List Int) (w : World) (hx : Rd w a xs) (hm : RdS w ra m) (hy : Rd w b v) (ed : I64 d) : Calls Try.prog 37 #[.agg #[.int .i64 p, .int .i64 d, .slice a xs.length c, .slice ra m.length rc], .slice b v.length cb] w (ResLii w (nearRes p d xs m v)) := by
  have hml := hm.len
  have hvl0 := hy.len
  generalize hR : nearRes p d xs m v = r
  obtain ⟨W0, hHW⟩ : ∃ z, z = w.alloc (.cells #[.int .i64 p, .int .i64 d, .slice a xs.length c, .slice ra m.length rc] 33) := ⟨_, rfl⟩
  have b0 : Below w.heap.size w W0 := by rw [hHW]; exact (Below.refl _ _).alloc (Nat.le_refl _) _
  have k0 : Blk W0 w.heap.size 33 #[.int .i64 p, .int .i64 d, .slice a xs.length c, .slice ra m.length rc] := by rw [hHW]; exact Blk.new _ _ _ rfl
  have sk0 : w.heap.size < W0.heap.size := k0.lt
  have HW := Lib.hid hHW
  clear hHW
  have hV := isVector_any p d a c xs ra rc m b cb v W0 (hx.below b0) (hm.below b0) (hy.below b0) ed
  cases hk : okV p d xs m v with
  | false =>
    have HN := Lib.hid (show r = ([], 0, 1) by rw [← hR, nearRes, hk]; rfl)
    rw [hk] at hV
    have HV := hide hV
    clear hV hk hR
    have f0 := k0.cell 0
    have f1 := k0.cell 1
    have f2 := k0.cell 2
    have f3 := k0.cell 3
    go_enter Try.func37, Try.ntmps37
    go_upto_region 1 with fail
    rw [← HW.out]
    go_wp2_with fail
    refine (unhide HV).mono ?_
    rintro e w1 ⟨rfl, b1⟩
    have k1 := k0.below b1 k0.lt
    clear f0 f1 f2 f3
    have f0 := k1.cell 0
    have f1 := k1.cell 1
    have f2 := k1.cell 2
    have f3 := k1.cell 3
    have bb1 := b0.trans (b1.mono (Nat.le_of_lt sk0))
    go_wp2
    go_ret3
    rw [HN.out]
    exact ⟨_, rfl, Own.nil _ _, bb1⟩
  | true =>
    rw [hk] at hV
    have HV := hide hV
    have hk0 := hk
    rw [okV, Bool.and_eq_true] at hk
    obtain ⟨F, n, rfl, rfl, rfl, hC⟩ := okC_gc hk.1
    have he := hk.2
    rw [fdR_eq] at he
    have ok := hC.good.ok
    obtain ⟨n2, n64⟩ := ok.n_bd
    have hRR : r = if v.length = n then nearV F n m v else ([], 0, 6) := by rw [← hR, nearRes, hk0, fdR_eq, hC.hn]; rfl
    have hEl := elems_iff he
    have hLE := fun W (h : Below W0.heap.size W0 W) => lengthOf_any F.p F.k a F.poly.length c ra rc m W ((hm.below b0).below h) hC.m1
    rw [hC.hn] at hLE
    have HLE := hide hLE
    clear hV hk hk0 he hR hLE
    have hm1 := hC.m1
    have hm0 : 0 < m.length := by omega
    have hm8 := hC.m8
    have hn1 := hC.n1
    have hn32 := hC.n32
    have BX := hide (show ∀ W, Below W0.heap.size W0 W → (Below W0.heap.size W0 W ∧ W.cell? ⟨w.heap.size, 0, none⟩ = some (.int .i64 F.p) ∧ W.cell? ⟨w.heap.size, 1, none⟩ = some (.int .i64 F.k) ∧ W.cell? ⟨w.heap.size, 2, none⟩ = some (.slice a F.poly.length c) ∧ W.cell? ⟨w.heap.size, 3, none⟩ = some (.slice ra m.length rc)) from fun W h => ⟨h, (k0.below h k0.lt).cell 0, (k0.below h k0.lt).cell 1, (k0.below h k0.lt).cell 2, (k0.below h k0.lt).cell 3⟩)
    have KB := hide (show ∀ W, Below W0.heap.size W0 W → Blk W w.heap.size 33 #[.int .i64 F.p, .int .i64 F.k, .slice a F.poly.length c, .slice ra m.length rc] from fun W h => k0.below h k0.lt)
    by_cases hle : v.length = n
    ·
      rw [if_pos hle] at hRR
      have HRR := Lib.hid hRR
      have hbq : ((v.length : Int) != (n : Int)) = false := by rw [hle]; simp
      clear hRR
      have hW := fun W (h : Below W0.heap.size W0 W) => wordsOf_any F a c ra rc m n W ((hx.below b0).below h) ((hm.below b0).below h) hC
      obtain ⟨hw1, hw2⟩ := hC.words_pos
      have hel := fun k hk => wordsTo_el ok n m (k := k) hk
      have hnv : nearV F n m v = (nthL (wordsTo F n m m.length) (nearI (wordsTo F n m m.length) v n (wordsTo F n m m.length).length), (apartTo (nthL (wordsTo F n m m.length) (nearI (wordsTo F n m m.length) v n (wordsTo F n m m.length).length)) v n : Int), 0) := rfl
      obtain ⟨wds, hwds⟩ : ∃ wds, wds = wordsTo F n m m.length := ⟨_, rfl⟩
      rw [← hwds] at hW hel hw1 hw2 hnv
      have hAP : ∀ (k : Nat) (_ : k < wds.length) ak ck W (_ : Below W0.heap.size W0 W) (_ : Rd W ak (nthL wds k)), Calls Try.prog 73 #[.slice ak n ck, .slice b v.length cb] W fun e w' => e = .returned (.int .i64 (apartTo (nthL wds k) v n : Nat)) ∧ Below W.heap.size W w' := fun k hk ak ck W h hr => by
        have hl := (hel k hk).1
        have h2 := distanceBetween_any ak b ck cb (nthL wds k) v W hr ((hy.below b0).below h) (by rw [hl, hle])
        rw [hl] at h2
        exact h2
      have HWW := hide hW
      have HAP := hide hAP
      have HEL := hide hel
      have HNV := Lib.hid hnv
      clear hW hAP hel hnv hwds hEl
      have HLN := Lib.hid hle
      clear hle hC
      have f0 := k0.cell 0
      have f1 := k0.cell 1
      have f2 := k0.cell 2
      have f3 := k0.cell 3
      go_enter Try.func37, Try.ntmps37
      go_upto_region 1 with fail
      rw [← HW.out]
      go_wp2_with fail
      refine (unhide HV).mono ?_
      rintro e w1 ⟨rfl, b1⟩
      have k1 := k0.below b1 k0.lt
      clear f0 f1 f2 f3
      have f0 := k1.cell 0
      have f1 := k1.cell 1
      have f2 := k1.cell 2
      have f3 := k1.cell 3
      have bb1 := b0.trans (b1.mono (Nat.le_of_lt sk0))
      go_upto_region 3 with fail
      go_region_held3 (fun W => Below W0.heap.size W0 W ∧ W.cell? ⟨w.heap.size, 0, none⟩ = some (.int .i64 F.p) ∧ W.cell? ⟨w.heap.size, 1, none⟩ = some (.int .i64 F.k) ∧ W.cell? ⟨w.heap.size, 2, none⟩ = some (.slice a F.poly.length c) ∧ W.cell? ⟨w.heap.size, 3, none⟩ = some (.slice ra m.length rc))
        (first | exact (unhide BX) _ b1.drew | exact (unhide BX) _ (by assumption))
        (first
          | (go_at_call 72; refine (unhide HLE _ ?_).mono ?_; exact And.left (by assumption); rintro e w2 ⟨rfl, b2⟩; have hB2 := Below.chain (a := W0) (And.left (by assumption)) b2)
          | (go_at_call 71; refine (size_any _ _ _ _).mono ?_; rintro e w3 ⟨rfl, rfl⟩))
      have k2 := unhide KB _ hB2
      clear f0 f1 f2 f3
      have f0 := k2.cell 0
      have f1 := k2.cell 1
      have f2 := k2.cell 2
      have f3 := k2.cell 3
      have bb2 := b0.trans (hB2.mono (Nat.le_of_lt sk0))
      go_wp2_with fail
      refine (unhide HWW _ hB2).mono ?_
      rintro e w3 ⟨u, rfl, o3, b3⟩
      obtain ⟨ax, cx, rfl, r3⟩ := o3.form
      obtain ⟨gw, ow, rfl, hgw, hcw⟩ := r3.at_ (by omega)
      have c3 := Below.chain hB2 b3
      have bb3 := b0.trans (c3.mono (Nat.le_of_lt sk0))
      have hcw2 : ∀ k, k < wds.length → ∃ ak ck, w3.cell? ⟨gw, ow + k, none⟩ = some (.slice ak n ck) ∧ Rd w3 ak (nthL wds k) := fun k hk => by
        obtain ⟨ak, ck, h1, h2⟩ := hcw k hk
        rw [(unhide HEL k hk).1] at h1
        exact ⟨ak, ck, h1, h2⟩
      have HCW := hide hcw2
      have O3 := hide o3
      have hz3 := bb2.size
      clear o3 r3 hcw hcw2 f0 f1 f2 f3
      go_wp2_with fail
      go_loopw [7, 8, 24] (fun bv lv iv wr => ∃ (k : Nat) (aj : Option Addr) (cj nj : Nat) (l : Int), iv = .int .i64 k ∧ bv = .slice aj nj cj ∧ lv = .int .i64 l ∧ k ≤ wds.length ∧ Hid ((k = 0 ∧ l = -1) ∨ (1 ≤ k ∧ nj = n ∧ w3.cell? ⟨gw, ow + nearI wds v n k, none⟩ = some (.slice aj n cj) ∧ l = (apartTo (nthL wds (nearI wds v n k)) v n : Nat))) ∧ Below w3.heap.size w3 wr) (fun _ _ iv _ => wds.length - (intOf iv).toNat)
      case atStart => exact ⟨0, none, 0, 0, -1, rfl, rfl, rfl, Nat.zero_le _, .inl ⟨rfl, rfl⟩, Below.refl _ _⟩
      case round =>
        obtain ⟨k, aj, cj, nj, l, rfl, rfl, rfl, hk, hSt, hb⟩ := hrel
        have hsz := hb.size
        by_cases hkl : k < wds.length
        · obtain ⟨ak, ck, hk2, hkr⟩ := unhide HCW k hkl
          have hA := unhide HAP k hkl ak ck wr (Below.chain c3 hb) (hkr.below hb)
          have hst : nearI wds v n (k + 1) = if apartTo (nthL wds k) v n < apartTo (nthL wds (nearI wds v n k)) v n then k else nearI wds v n k := rfl
          obtain ⟨D1, hD1⟩ : ∃ D1, D1 = apartTo (nthL wds k) v n := ⟨_, rfl⟩
          rw [← hD1] at hA hst
          have HA := hide hA
          have hkc := (hb.cell (p := ⟨gw, ow + k, none⟩) hgw).trans hk2
          have HK2 := hide hk2
          have HD1 := Lib.hid hD1
          clear hA hD1 hkr hk2
          by_cases hl : l < 0
          · have h1 : nearI wds v n (k + 1) = k := by
              rcases hSt.out with ⟨h, _⟩ | ⟨h, _, _, e⟩
              · subst h; exact nearI_one wds v n
              · omega
            have H1 := Lib.hid h1
            clear h1 hst hSt
            go_wp2_with fail
            refine (unhide HA).mono ?_
            rintro e w4 ⟨rfl, b4⟩
            have hb4 := hb.trans (b4.mono hsz)
            go_wp2
            go_roundw
            case rel => exact ⟨k + 1, ak, ck, n, D1, by go_num, rfl, rfl, by omega, .inr ⟨by omega, rfl, by rw [H1.out]; exact unhide HK2, by rw [H1.out, HD1.out]⟩, hb4⟩
            case measure => simp only [intOf]; omega
          · have hst2 : 1 ≤ k ∧ nj = n ∧ w3.cell? ⟨gw, ow + nearI wds v n k, none⟩ = some (.slice aj n cj) ∧ l = (apartTo (nthL wds (nearI wds v n k)) v n : Nat) := by
              rcases hSt.out with ⟨_, h⟩ | h
              · omega
              · exact h
            obtain ⟨D2, hD2⟩ : ∃ D2, D2 = apartTo (nthL wds (nearI wds v n k)) v n := ⟨_, rfl⟩
            rw [← hD2] at hst hst2
            obtain ⟨hk1, rfl, hjc, rfl⟩ := hst2
            have HJC := hide hjc
            have HD2 := Lib.hid hD2
            have hl0 : decide ((D2 : Int) < 0) = false := by rw [decide_eq_false_iff_not]; omega
            clear hjc hD2 hSt
            by_cases hlt : D1 < D2
            · rw [if_pos hlt] at hst
              have hlb : decide ((D1 : Int) < (D2 : Int)) = true := by rw [decide_eq_true_eq]; omega
              have hlc : decide (D1 < D2) = true := by rw [decide_eq_true_eq]; omega
              have HST := Lib.hid hst
              clear hst
              go_wp2_with fail
              refine (unhide HA).mono ?_
              rintro e w4 ⟨rfl, b4⟩
              have hb4 := hb.trans (b4.mono hsz)
              go_wp2
              go_roundw
              case rel => exact ⟨k + 1, ak, ck, nj, D1, by go_num, rfl, rfl, by omega, .inr ⟨by omega, rfl, by rw [HST.out]; exact unhide HK2, by rw [HST.out, HD1.out]⟩, hb4⟩
              case measure => simp only [intOf]; omega
            · rw [if_neg hlt] at hst
              have hlb : decide ((D1 : Int) < (D2 : Int)) = false := by rw [decide_eq_false_iff_not]; omega
              have hlc : decide (D1 < D2) = false := by rw [decide_eq_false_iff_not]; omega
              have HST := Lib.hid hst
              clear hst
              go_wp2_with fail
              refine (unhide HA).mono ?_
              rintro e w4 ⟨rfl, b4⟩
              have hb4 := hb.trans (b4.mono hsz)
              go_wp2
              go_roundw
              case rel => exact ⟨k + 1, aj, cj, nj, D2, by go_num, rfl, rfl, by omega, .inr ⟨by omega, rfl, by rw [HST.out]; exact unhide HJC, by rw [HST.out, HD2.out]⟩, hb4⟩
              case measure => simp only [intOf]; omega
        · have hke : k = wds.length := by omega
          have hst2 : nj = n ∧ w3.cell? ⟨gw, ow + nearI wds v n k, none⟩ = some (.slice aj n cj) ∧ l = (apartTo (nthL wds (nearI wds v n k)) v n : Nat) := by
            rcases hSt.out with ⟨h, _⟩ | h
            · omega
            · exact h.2
          have hjk := nearI_lt wds v n (k := k) (by omega)
          have hnv := HNV.out
          rw [← hke] at hnv
          obtain ⟨j, hj⟩ : ∃ j, j = nearI wds v n k := ⟨_, rfl⟩
          rw [← hj] at hst2 hjk hnv
          have hjl : j < wds.length := by omega
          obtain ⟨rfl, hj1, rfl⟩ := hst2
          obtain ⟨ar, cr, orow, hrow, _⟩ := (unhide O3).row hjl
          have hrow := hrow _ _ _ _ rfl
          rw [hj1] at hrow
          injection hrow with hrow
          injection hrow with e1 e2 e3
          rw [← e1, ← e2, ← e3] at orow
          have OR := hide orow
          have HV := Lib.hid hnv
          clear hnv hke hj orow e1 e2 e3 hSt hj1
          go_wp2
          go_ret3
          rw [HRR.out, HV.out]
          exact ⟨_, rfl, ((unhide OR).below hb (Nat.le_refl _)).mono hz3, bb3.trans (hb.mono bb3.size)⟩
    ·
      rw [if_neg hle] at hRR
      have HN := Lib.hid hRR
      have hbq : ((v.length : Int) != (n : Int)) = true := by rw [bne_iff_ne]; omega
      clear hRR hle hEl hC
      have f0 := k0.cell 0
      have f1 := k0.cell 1
      have f2 := k0.cell 2
      have f3 := k0.cell 3
      go_enter Try.func37, Try.ntmps37
      go_upto_region 1 with fail
      rw [← HW.out]
      go_wp2_with fail
      refine (unhide HV).mono ?_
      rintro e w1 ⟨rfl, b1⟩
      have k1 := k0.below b1 k0.lt
      clear f0 f1 f2 f3
      have f0 := k1.cell 0
      have f1 := k1.cell 1
      have f2 := k1.cell 2
      have f3 := k1.cell 3
      have bb1 := b0.trans (b1.mono (Nat.le_of_lt sk0))
      go_upto_region 3 with fail
      go_region_held3 (fun W => Below W0.heap.size W0 W ∧ W.cell? ⟨w.heap.size, 0, none⟩ = some (.int .i64 F.p) ∧ W.cell? ⟨w.heap.size, 1, none⟩ = some (.int .i64 F.k) ∧ W.cell? ⟨w.heap.size, 2, none⟩ = some (.slice a F.poly.length c) ∧ W.cell? ⟨w.heap.size, 3, none⟩ = some (.slice ra m.length rc))
        (first | exact (unhide BX) _ b1.drew | exact (unhide BX) _ (by assumption))
        (first
          | (go_at_call 72; refine (unhide HLE _ ?_).mono ?_; exact And.left (by assumption); rintro e w2 ⟨rfl, b2⟩; have hB2 := Below.chain (a := W0) (And.left (by assumption)) b2)
          | (go_at_call 71; refine (size_any _ _ _ _).mono ?_; rintro e w3 ⟨rfl, rfl⟩))
      have k2 := unhide KB _ hB2
      clear f0 f1 f2 f3
      have f0 := k2.cell 0
      have f1 := k2.cell 1
      have f2 := k2.cell 2
      have f3 := k2.cell 3
      have bb2 := b0.trans (hB2.mono (Nat.le_of_lt sk0))
      go_wp2
      go_ret3
      rw [HN.out]
      exact ⟨_, rfl, Own.nil _ _, bb2⟩
end Go.Proofs.Ytbocaiicbephgaa

