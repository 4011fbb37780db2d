/-
  Walk: the program's CorrectHamming.
-/
import Derived.BigQuiet
import Derived.BigRegion
import Derived.ChangeOld
import Derived.Deep.DeepCutAuto
import Derived.Deep.DeepMust
import Derived.Deep.DrawnRows
import Derived.Deep.Draws
import Derived.Deep.OwnRows
import Derived.Deep.QuietTactic
import Derived.Deep.RegionHeld3
import Derived.Deep.Slices
import Derived.IntWalk
import Derived.Laws.Rows
import Derived.Lib.Hide
import Derived.Maps.AppendAt
import Derived.OpenShut
import Derived.OwnWalk
import Derived.ProofKit
import Derived.ShutString
import Derived.StillTailTactics
import Derived.Test.YtgmgpcaahanmiaaProg
import Derived.Test.YtgmgpcaahanmiaaRows
import Derived.WalkKit
import Derived.WalkLawsBesides
import Derived.WalkSpells
import Derived.Test.YtgmgpcaahanmiaaZ5
import Derived.Test.YtgmgpcaahanmiaaZ7
import Derived.Test.YtgmgpcaahanmiaaZ26
import Derived.Test.YtgmgpcaahanmiaaZ49
import Derived.Test.YtgmgpcaahanmiaaZ60
import Derived.Test.YtgmgpcaahanmiaaZ61
import Derived.Test.YtgmgpcaahanmiaaZ68
set_option linter.unusedVariables false
set_option linter.unusedSimpArgs false
namespace Go.Proofs.Ytgmgpcaahanmiaa
open Go.RowKit
attribute [local go_sem ↓] Go.wp_at_zero Go.wp_at_succ

/-- Where a vector stands among columns. -/
def plcC (C : List (List Int)) (s : List Int) : Nat := C.findIdx fun c => !decide (cmpL c s < 0)
theorem plcC_eq {C : List (List Int)} {s : List Int} {p : Nat} (hp : p < C.length) (h1 : ∀ i, i < p → cmpL (nthL C i) s < 0) (h2 : ¬ cmpL (nthL C p) s < 0) : plcC C s = p := by
  rw [plcC, List.findIdx_eq hp]
  refine ⟨by rw [← nthL_lt hp]; simpa using h2, fun j hj => ?_⟩
  rw [← nthL_lt (by omega)]
  simpa using h1 j hj
/-- A vector, corrected. -/
def corr (F : FD) (r : Nat) (C : List (List Int)) (word : List Int) : List Int :=
  if lead (encTo F r C word C.length) = 0 then word
  else word.set (plcC C (scale F (F.inv (lead (encTo F r C word C.length))) (encTo F r C word C.length)))
    (F.sub (nth word (plcC C (scale F (F.inv (lead (encTo F r C word C.length))) (encTo F r C word C.length)))) (lead (encTo F r C word C.length)))
theorem corNZ_any (x : Int) (w : World) : Calls Try.prog 93 #[.int .i64 x] w fun e w' => e = .returned (.bool (x != 0)) ∧ Below w.heap.size w w' := by
  go_enter Try.func93, Try.ntmps93
  go_wp2
  go_ret
  exact ⟨rfl, Below.refl _ _⟩
theorem ent_corNZ : ∀ (args : Array Value) (w : World), (callFunc 93 args).run Try.prog w = .ok (.enter 93 args) w := fun _ _ => by kernel_rfl
set_option maxRecDepth 100000 in
set_option maxHeartbeats 3200000 in
theorem implCO_ok (F : FD) (R : Nat) (C : List (List Int)) (b : Option Addr) (cb : Nat) (word : List Int) (w : World)
    (hV : ∀ W, Calls Try.prog 87 #[.int .i64 F.n, .int .i64 R] W fun e w' => ∃ v u, e = .returned (.tuple #[.agg #[.int .i64 F.p, .int .i64 F.k, v], u, .int .i64 0]) ∧ Own w' W.heap.size v F.poly ∧ OwnS w' W.heap.size u C ∧ Below W.heap.size W w')
    (hG : F.Good) (hC : C = colsUp F.n R (F.n ^ R)) (hCM : F.Mat R C) (hC3 : 3 ≤ C.length) (hC32 : C.length ≤ 32) (hR2 : 2 ≤ R) (hR4 : R ≤ 4) (hx : Rd w b word) (hl : word.length = C.length) (he : elems F.n word = true) :
    Calls Try.prog 16 #[.int .i64 F.n, .int .i64 R, .slice b word.length cb] w (ResL w (corr F R C word, 0)) := by
  have ok := hG.ok
  obtain ⟨n2, n64⟩ := ok.n_bd
  have hwe : ∀ x ∈ word, 0 ≤ x ∧ x < F.n := fun x hx => elems_true.1 he x hx
  have hAI := fun W (h : Rd W b word) => areIn_any F.n b cb word W (by omega) (by omega) h
  rw [he] at hAI
  have hT := fun a c W (h : Rd W a F.poly) => tablesOf_any F a c W h ok
  have hmk := fun W => run_make_row' (P := Try.prog) 22 2 (.int .i64 0) 8 Try.underlying22 Try.info_i64 rfl .i64 .i64 R (by omega) (by omega) W
  have hne : ((word.length : Int) != (C.length : Int)) = false := by rw [hl]; simp
  have hSl : (encTo F R C word C.length).length = R := encTo_len _ _ _ _ _
  have hSe := encTo_el ok R C word C.length
  have hpl := fun h0 => cor_place hG hSl hSe h0
  rw [← hC] at hpl
  obtain ⟨res, hres⟩ : ∃ res, res = corr F R C word := ⟨_, rfl⟩
  rw [← hres]
  have HRES := Lib.hid hres
  have HPL := hide hpl
  have HSL := Lib.hid hSl
  have HSE := hide hSe
  have HV := hide hV
  have HAI := hide hAI
  have HT := hide hT
  have HL := Lib.hid hl
  have HCM := hide hCM
  have HWE := hide hwe
  have HX := hide hx
  have hw3 : 3 ≤ word.length := by omega
  have hw32 : word.length ≤ 32 := by omega
  clear hres hpl hSl hSe hV hAI hT hl hC hCM hwe hx he
  go_enter Try.func16, Try.ntmps16
  go_wp2_with fail
  refine (unhide HV _).mono ?_
  rintro e w1 ⟨v1, u1, rfl, o1, q1, b1⟩
  obtain ⟨a1, c1, rfl, _, _⟩ := o1.form
  obtain ⟨au, cu, rfl, _⟩ := q1.form
  obtain ⟨W1, hHF⟩ : ∃ z, z = w1.alloc (.cells #[.int .i64 F.p, .int .i64 F.k, .slice a1 F.poly.length c1] 34) := ⟨_, rfl⟩
  have bF : Below w1.heap.size w1 W1 := by rw [hHF]; exact (Below.refl _ _).alloc (Nat.le_refl _) _
  have kF : Blk W1 w1.heap.size 34 #[.int .i64 F.p, .int .i64 F.k, .slice a1 F.poly.length c1] := by rw [hHF]; exact Blk.new _ _ _ rfl
  have HF := Lib.hid hHF
  clear hHF
  have d1 := Below.chain b1 bF
  have o1x := o1.below bF (Nat.le_refl _)
  have q1x := q1.below bF (Nat.le_refl _)
  clear o1 q1 b1 bF
  go_upto_region 2 with fail
  rw [← HF.out]
  go_wp2_with fail
  refine (unhide HAI _ ((unhide HX).below d1)).mono ?_
  rintro e w2 ⟨rfl, b2⟩
  have kF2 := kF.below b2 kF.lt
  have d2 := Below.chain d1 b2
  have o2 := o1x.below b2 (Nat.le_refl _)
  have q2 := q1x.below b2 (Nat.le_refl _)
  have f0 := kF2.cell 0
  have f1 := kF2.cell 1
  have f2 := kF2.cell 2
  clear kF o1x q1x d1 b2
  go_wp2_with fail
  refine (unhide HT _ _ _ o2.rd).mono ?_
  rintro e w3 ⟨tv, rfl, t3, b3⟩
  have t3' := t3
  obtain ⟨aA, cA, aS, cS, aM, cM, aI, cI, rfl, _, _, _, _⟩ := t3'
  obtain ⟨W4, hH4⟩ : ∃ z, z = w3.alloc (.cells #[.int .i64 F.n, .slice aA F.n cA, .slice aS F.n cS, .slice aM F.n cM, .slice aI F.n cI] 93) := ⟨_, rfl⟩
  have b4 : Below w3.heap.size w3 W4 := by rw [hH4]; exact (Below.refl _ _).alloc (Nat.le_refl _) _
  have kT : Blk W4 w3.heap.size 93 #[.int .i64 F.n, .slice aA F.n cA, .slice aS F.n cS, .slice aM F.n cM, .slice aI F.n cI] := by rw [hH4]; exact Blk.new _ _ _ rfl
  have H4 := Lib.hid hH4
  clear hH4
  have d34 := Below.chain b3 b4
  have q4 := q2.below d34 (Nat.le_refl _)
  have d4 := Below.chain d2 d34
  have t4 := t3.below b4
  have x4 := (unhide HX).below d4
  have skT := kT.lt
  have z4 := d4.size
  clear kF2 o2 q2 d2 t3 b3 b4 d34 f0 f1 f2
  go_upto_region 9 with fail
  rw [← H4.out]
  go_upto_region 10 with fail
  obtain ⟨W5, hW5⟩ : ∃ z, z = W4.alloc (.cells (madeCells #[.int .i64 0] R) 2) := ⟨_, rfl⟩
  have oz : Own W5 W4.heap.size (.slice (some ⟨W4.heap.size, 0, none⟩) R R) (zeros R) := by rw [hW5]; exact Own.zeros W4 (Nat.le_refl _) (by omega)
  have bz : Below W4.heap.size W4 W5 := by rw [hW5]; exact (Below.refl _ _).alloc (Nat.le_refl _) _
  rw [← hW5]
  have sz : W4.heap.size < W5.heap.size := by rw [hW5]; simp
  clear hW5
  have OZ := Lib.hid oz
  clear oz hmk
  obtain ⟨gc, oc, rfl, hgc, hcc⟩ := q4.rd.at_ (by omega)
  obtain ⟨gm, om, rfl, hgm, hcm⟩ := x4.at_ (by omega)
  have HCC := hide hcc
  have HCMM := hide hcm
  have HT4 := hide t4
  have HQ4 := hide q4.rd
  have HX4 := hide x4
  clear hcc hcm t4 q4 x4
  go_wp2_with fail
  go_loopw [50] (fun iv wr => ∃ k : Nat, iv = .int .i64 k ∧ k ≤ word.length ∧ Hid (Own wr W4.heap.size (.slice (some ⟨W4.heap.size, 0, none⟩) R R) (encTo F R C word k)) ∧ Hid (W5.grownBy wr (some W4.heap.size))) (fun iv _ => word.length - (intOf iv).toNat)
  case atStart => exact ⟨0, rfl, Nat.zero_le _, OZ, hide (grown_refl _ _)⟩
  case round =>
    obtain ⟨k, rfl, hk, ho, hg⟩ := hrel
    have hbg : Below W4.heap.size W4 wr := bz.grown hg.out (by omega) (fun q hq => by injection hq; omega)
    have kTr := kT.below hbg kT.lt
    have hzr := hbg.size
    have hzs : W4.heap.size < wr.heap.size := by have := hg.out.size; omega
    by_cases hkl : k < word.length
    · have hc1 := (hbg.cell (p := ⟨gm, om + k, none⟩) hgm).trans (unhide HCMM k hkl)
      have hxr := unhide HWE _ (nth_mem hkl)
      have hkC : k < C.length := by have := HL.out; omega
      obtain ⟨ai, ci, hr1, hrr⟩ := unhide HCC k hkC
      have hmt := Mat_nth (unhide HCM) hkC
      rw [hmt.1] at hr1
      have hr1w : wr.cell? ⟨gc, oc + k, none⟩ = some (.slice ai R ci) := (hbg.cell (p := ⟨gc, oc + k, none⟩) hgc).trans hr1
      obtain ⟨x, hxx⟩ : ∃ x, x = nth word k := ⟨_, rfl⟩
      rw [← hxx] at hc1 hxr
      have hat : Calls Try.prog 90 #[.agg #[.int .i64 F.n, .slice aA F.n cA, .slice aS F.n cS, .slice aM F.n cM, .slice aI F.n cI], .slice (some ⟨W4.heap.size, 0, none⟩) R R, .slice ai R ci, .int .i64 x] wr.drew fun e w' => e = .returned (.tuple #[]) ∧ Own w' W4.heap.size (.slice (some ⟨W4.heap.size, 0, none⟩) R R) (addTo F (encTo F R C word k) (nthL C k) x R) ∧ wr.drew.grownBy w' (some W4.heap.size) := by
        have hel := encTo_len F R C word k
        have h := addTimes_any F _ W4 wr.drew W4.heap.size W4.heap.size R ai ci (encTo F R C word k) (nthL C k) x ok (unhide HT4) hbg.drew (Nat.le_refl _) (by rw [hel]; exact ho.out.drewN 1) ((hrr.below hbg).drewN 1) (fun p hp => by
          obtain ⟨b2, o2, e2, hb2, _⟩ := hrr.at_ (by rw [hmt.1]; omega)
          rw [hp] at e2
          injection e2 with e2
          rw [e2]
          show b2 ≠ W4.heap.size
          omega) (by rw [hel, hmt.1]) hxr.1 hxr.2 (encTo_el ok R C word k) hmt.2
        rw [hel, hmt.1] at h
        exact h
      have HAT := hide hat
      have HST := Lib.hid (show encTo F R C word (k + 1) = addTo F (encTo F R C word k) (nthL C k) x R by rw [encTo, hxx])
      have f0 := kTr.cell 0
      have f1 := kTr.cell 1
      have f2 := kTr.cell 2
      have f3 := kTr.cell 3
      have f4 := kTr.cell 4
      clear hat hxx hmt hrr hr1
      go_wp2_with fail
      go_still_tail 7, (by kernel_rfl)
      change wpList _ _ _ _ _ wr.drew
      go_wp2_with fail
      refine (unhide HAT).mono ?_
      rintro e w5 ⟨rfl, o5, g5⟩
      go_wp2_with fail
      go_roundw
      case rel =>
        refine ⟨k + 1, by go_num, by omega, ?_, hide (grown_trans_row (grown_trans_row hg.out (grown_drew1 wr _)) g5)⟩
        show Own _ _ _ _
        rw [HST.out]
        exact o5
      case measure => simp only [intOf]; omega
    · have hke : k = word.length := by omega
      have oS := ho.out
      rw [hke, HL.out] at oS
      have hsl := HSL.out
      obtain ⟨S, hS⟩ : ∃ S, S = encTo F R C word C.length := ⟨_, rfl⟩
      rw [← hS] at oS hsl
      have hfo := fun (h : lead S ≠ 0) => lead_first h
      have hcl := clone_any (some ⟨gm, om, none⟩) cb word wr ((unhide HX4).below hbg)
      have HCL := hide hcl
      have HE := Lib.hid hke
      have HS := Lib.hid hS
      have hSL := Lib.hid hsl
      have HO := hide oS
      clear hcl hke hS hsl oS ho
      go_wp2_with fail
      refine (unhide HCL).mono ?_
      rintro e w6 ⟨v6, rfl, o6, b6⟩
      obtain ⟨a6, c6, rfl, _, _⟩ := o6.form
      have z6 := b6.size
      have oS6 := (unhide HO).below b6 (Nat.le_refl _)
      have hix := idxI0 93 (fun x => x != 0) (some ⟨W4.heap.size, 0, none⟩) R S w6 ent_corNZ oS6.rd (fun j W' _ _ => corNZ_any _ W')
      rw [hSL.out] at hix
      by_cases h0 : lead S = 0
      · rw [lead_none h0] at hix
        have hr0 : res = word := by
          have h := HRES.out
          rw [corr, ← HS.out, if_pos h0] at h
          exact h
        have HI := hide hix
        have HR0 := Lib.hid hr0
        clear hix hr0 h0 hfo oS6
        go_wp2_with fail
        refine (unhide HI).mono ?_
        rintro e w7 ⟨rfl, b7⟩
        have o7 := o6.below b7 (Nat.le_refl _)
        go_wp2_with fail
        go_ret2
        rw [HR0.out]
        exact ⟨_, rfl, o7.mono (by omega), Below.chain (Below.chain d4 (hbg.mono (Nat.le_refl _))) (Below.chain b6 b7)⟩
      · obtain ⟨k0, hk0, hk1, hk2, hk3, hfo1⟩ := hfo h0
        rw [hfo1] at hix
        have hPL := unhide HPL (by rw [← HS.out]; exact h0)
        rw [← HS.out] at hPL
        have hlb := lead_bd (q := F.n) (by omega) (by rw [HS.out]; exact unhide HSE : ∀ y ∈ S, 0 ≤ y ∧ y < F.n)
        obtain ⟨p, hp, hp1, hp2, _⟩ := hPL
        have hres : res = word.set p (F.sub (nth word p) (lead S)) := by
          have h := HRES.out
          rw [corr, ← HS.out, if_neg h0, plcC_eq hp hp1 (by have := hp2 p (Nat.le_refl _) hp; omega)] at h
          exact h
        obtain ⟨_, i2, i3, _⟩ := inv_spec hG (a := lead S) (by omega) hlb.2
        have hc0 := oS6.cell (j := k0) hk0
        rw [hk1] at hc0
        rw [hSL.out] at hk0
        obtain ⟨f, hf⟩ : ∃ f, f = lead S := ⟨_, rfl⟩
        rw [← hf] at hc0 hres i2 i3 hlb hp1 hp2 h0
        obtain ⟨fn, rfl⟩ := Int.eq_ofNat_of_zero_le hlb.1
        obtain ⟨vn, hvn⟩ := Int.eq_ofNat_of_zero_le (show 0 ≤ F.inv fn by omega)
        rw [hvn] at i2 i3 hp1 hp2
        have hfF : fn < F.n := by omega
        have hvF : vn < F.n := by omega
        have hIN := invTo_nth hG (j := fn) hfF
        rw [hvn] at hIN
        have hk0b : decide ((0 : Int) ≤ (k0 : Int)) = true := by rw [decide_eq_true_eq]; omega
        have hsb := sub_bd ok (nth word p) fn
        have HI := hide hix
        have HRS := Lib.hid hres
        have HP1 := hide hp1
        have HP2 := hide hp2
        have HIN := Lib.hid hIN
        have HSB := hide hsb
        have HSE2 := hide (by rw [HS.out]; exact unhide HSE : ∀ y ∈ S, 0 ≤ y ∧ y < F.n)
        clear hix hres h0 hfo hp1 hp2 hIN hf hk1 hk2 hk3 hfo1 hvn hlb hsb
        go_wp2_with fail
        refine (unhide HI).mono ?_
        rintro e w7 ⟨rfl, b7⟩
        have z7 := b7.size
        have o7 := o6.below b7 (Nat.le_refl _)
        have oS7 := oS6.below b7 (Nat.le_refl _)
        have hc7 := oS7.cell (j := k0) (by rw [hSL.out]; exact hk0)
        have hcc0 := oS6.cell (j := k0) (by rw [hSL.out]; exact hk0)
        rw [hc0] at hcc0
        rw [← hcc0] at hc7
        have d67 := Below.chain b6 b7
        have hb7 := Below.chain hbg d67
        have z67 := hb7.size
        have OS7 := Lib.hid (show Own w7 W4.heap.size (.slice (some ⟨W4.heap.size, 0, none⟩) R R) (scaleTo F vn S 0) from oS7)
        have hal := scaleTo_all F vn S
        rw [hSL.out] at hal
        have HAL := Lib.hid hal
        clear oS7 oS6 hc0 hcc0 hal
        go_wp2_with fail
        go_loopw [76] (fun kv wr => ∃ j : Nat, kv = .int .i64 j ∧ j ≤ R ∧ Hid (Own wr W4.heap.size (.slice (some ⟨W4.heap.size, 0, none⟩) R R) (scaleTo F vn S j)) ∧ Hid (w7.grownBy wr (some W4.heap.size))) (fun kv _ => R - (intOf kv).toNat)
        case atStart => exact ⟨0, rfl, Nat.zero_le _, OS7, hide (grown_refl _ _)⟩
        case round =>
          obtain ⟨j, rfl, hj, hoj, hgj⟩ := hrel
          have hbj : Below W4.heap.size W4 wr := hb7.grown hgj.out (by omega) (fun q hq => by injection hq; omega)
          have hzj := hbj.size
          have kTj := kT.below hbj kT.lt
          by_cases hjn : j < R
          · have hsl1 := scaleTo_len F vn S j
            have hcj := hoj.out.cell (j := j) (by rw [hsl1, hSL.out]; exact hjn)
            rw [scaleTo_nth F _ S j (by rw [hSL.out]; omega), if_neg (by omega)] at hcj
            have hfj := hoj.out.frozen j
            have hyr := unhide HSE2 _ (nth_mem (k := j) (by rw [hSL.out]; exact hjn))
            obtain ⟨y, hY⟩ : ∃ y, y = nth S j := ⟨_, rfl⟩
            have hst : scaleTo F vn S (j + 1) = (scaleTo F vn S j).set j (F.mul vn y) := by rw [scaleTo, hY]
            rw [← hY] at hcj hyr
            obtain ⟨aA', cA', aS', cS', aM', cM', aI', cI', e8, tA, tS, tM, tI⟩ := (unhide HT4).below hbj
            injection e8 with e8
            simp only [Array.mk.injEq, List.cons.injEq, Value.slice.injEq, and_true, true_and] at e8
            obtain ⟨⟨rfl, rfl⟩, ⟨rfl, rfl⟩, ⟨rfl, rfl⟩, ⟨rfl, rfl⟩⟩ := e8
            obtain ⟨bI, oI, hbI, _, hcI⟩ := tI.at_ (by rw [invTo_len]; omega)
            have i1 := hcI fn (by rw [invTo_len]; exact hfF)
            rw [HIN.out] at i1
            obtain ⟨yn, hyn⟩ := Int.eq_ofNat_of_zero_le hyr.1
            rw [hyn] at hcj hyr hst
            obtain ⟨bM2, oM2, bm2, om2, cm2, hbM2, m3, m4⟩ := tab_at tM (i := vn) (j := yn) (by omega) (by omega)
            have f3 := kTj.cell 3
            have f4 := kTj.cell 4
            rw [hbM2] at f3
            rw [hbI] at f4
            obtain ⟨Z, hZ⟩ : ∃ Z, Z = F.mul vn yn := ⟨_, rfl⟩
            rw [← hZ] at m4 hst
            have hynn : yn < F.n := by omega
            have HST := Lib.hid hst
            clear hst hZ hcI hY hyn hyr hbM2 hbI hsl1 tA tS tM tI
            go_wp2_with fail
            go_region
            go_wp2
            go_roundw
            case rel =>
              have hs := hoj.out.set j Z
              refine ⟨j + 1, by go_num, by omega, ?_, hide (grown_drew (grown_trans_row hgj.out hs.2))⟩
              show Own _ _ _ _
              rw [HST.out]
              exact hs.1.drewN 1
            case measure => simp only [intOf]; omega
          · have hje : j = R := by omega
            have oj := hoj.out
            rw [hje, HAL.out] at oj
            have o8 := o7.grow hgj.out (.inr (by
              intro e
              have h := (o7.lt W4.heap.size e).1
              omega))
            have hscl := scale_len F vn S
            have hbs := bsearchL_any (some ⟨gc, oc, none⟩) (some ⟨W4.heap.size, 0, none⟩) cu R C (scale F vn S) p wr ((unhide HQ4).below hbj) oj.rd (by omega) (by omega) (unhide HP1) (fun i h1 h2 => by have := unhide HP2 i h1 h2; omega)
            rw [hscl, hSL.out] at hbs
            have HBS := hide hbs
            have hpw : p < word.length := by have := HL.out; omega
            obtain ⟨g6, c6', e6, hg6, hg6', _, _⟩ := o8.at_len (n := word.length) rfl (by omega)
            injection e6 with e6 _ ec6
            subst e6
            subst ec6
            have hcw := o8.cell (j := p) hpw
            have hfw := o8.frozen p
            have hwr := unhide HWE _ (nth_mem hpw)
            have hrs := HRS.out
            obtain ⟨y, hY⟩ : ∃ y, y = nth word p := ⟨_, rfl⟩
            rw [← hY] at hcw hwr hrs
            obtain ⟨aA', cA', aS', cS', aM', cM', aI', cI', e8, tA, tS, tM, tI⟩ := (unhide HT4).below hbj
            injection e8 with e8
            simp only [Array.mk.injEq, List.cons.injEq, Value.slice.injEq, and_true, true_and] at e8
            obtain ⟨⟨rfl, rfl⟩, ⟨rfl, rfl⟩, ⟨rfl, rfl⟩, ⟨rfl, rfl⟩⟩ := e8
            obtain ⟨yn, hyn⟩ := Int.eq_ofNat_of_zero_le hwr.1
            rw [hyn] at hcw hwr hrs
            obtain ⟨bS, oS', bs, os, cs, hbS, s3, s4⟩ := tab_at tS (i := yn) (j := fn) (by omega) hfF
            have f2 := kTj.cell 2
            rw [hbS] at f2
            obtain ⟨Z, hZ⟩ : ∃ Z, Z = F.sub yn fn := ⟨_, rfl⟩
            rw [← hZ] at s4 hrs
            have hynn : yn < F.n := by omega
            have HRR := Lib.hid hrs
            have HE2 := Lib.hid hje
            have hend := (hbj.drew)
            clear hje oj hbs hscl hY hyn hwr hbS hZ hrs tA tS tM tI
            go_wp2_with fail
            refine (unhide HBS).mono ?_
            rintro e w9 ⟨rfl, rfl⟩
            go_wp2_with fail
            go_region
            go_wp2
            go_ret2
            rw [HRR.out]
            have hs := o8.set p Z
            exact ⟨_, rfl, (hs.1.drewN 1).mono (by omega), ((Below.chain d4 hbj).setCell (by show w.heap.size ≤ g6; omega) _).drew⟩
end Go.Proofs.Ytgmgpcaahanmiaa

/-
  Walk: the specification's CorrectHamming.
-/
namespace Go.Proofs.Ytgmgpcaahanmiaa
open Go.RowKit
attribute [local go_sem ↓] Go.wp_at_zero Go.wp_at_succ

/-- The vector with what lies ahead of (i, x) corrected. -/
def corAt (word res : List Int) (p : Nat) (f : Int) (i : Nat) (x : Int) : List Int := if f ≠ 0 ∧ (p < i ∨ (p = i ∧ f < x)) then res else word
theorem corAt_len {word res : List Int} (h : res.length = word.length) (p : Nat) (f : Int) (i : Nat) (x : Int) : (corAt word res p f i x).length = word.length := by
  unfold corAt
  split
  · exact h
  · rfl
theorem corAt_hit {word res : List Int} {p i : Nat} {f x : Int} (h : f ≠ 0 ∧ i = p ∧ x = f) : corAt word res p f i x = word ∧ corAt word res p f i (x + 1) = res := by
  unfold corAt
  exact ⟨if_neg (by omega), if_pos (by omega)⟩
theorem corAt_miss {word res : List Int} {p i : Nat} {f x : Int} (h : ¬ (f ≠ 0 ∧ i = p ∧ x = f)) : corAt word res p f i (x + 1) = corAt word res p f i x := by
  unfold corAt
  by_cases h1 : f ≠ 0 ∧ (p < i ∨ (p = i ∧ f < x))
  · rw [if_pos h1, if_pos (by omega)]
  · rw [if_neg h1, if_neg (by omega)]
theorem corAt_next {word res : List Int} {p i : Nat} {f n : Int} (h0 : 0 ≤ f) (hn : f < n) : corAt word res p f (i + 1) 1 = corAt word res p f i n := by
  unfold corAt
  by_cases h1 : f ≠ 0 ∧ (p < i ∨ (p = i ∧ f < n))
  · rw [if_pos h1, if_pos (by omega)]
  · rw [if_neg h1, if_neg (by omega)]
theorem corAt_end {word res : List Int} {p n : Nat} {f : Int} (h0 : f ≠ 0 → p < n) (hr : f = 0 → res = word) : corAt word res p f n 1 = res := by
  unfold corAt
  by_cases h1 : f = 0
  · rw [if_neg (by omega), hr h1]
  · rw [if_pos ⟨h1, .inl (h0 h1)⟩]
set_option maxRecDepth 100000 in
set_option maxHeartbeats 3200000 in
theorem specCO_ok (F : FD) (q : Int) (R : Nat) (C : List (List Int)) (b : Option Addr) (cb : Nat) (word : List Int) (w : World) (hqn : q = F.n)
    (hA : ∀ W, Calls Try.prog 78 #[.int .i64 q, .int .i64 R] W fun e w' => e = .returned (.bool true) ∧ W = w')
    (hCC : ∀ W, Calls Try.prog 80 #[.int .i64 q, .int .i64 R] W fun e w' => ∃ v, e = .returned v ∧ OwnS w' W.heap.size v C ∧ Below W.heap.size W w')
    (hMk : ∀ W, Calls Try.prog 81 #[.int .i64 q] W fun e w' => ∃ v, e = .returned (.agg #[.int .i64 F.p, .int .i64 F.k, v]) ∧ Own w' W.heap.size v F.poly ∧ Below W.heap.size W w')
    (hG : F.Good) (hC : C = colsUp F.n R (F.n ^ R)) (hCM : F.Mat R C) (hC3 : 3 ≤ C.length) (hC32 : C.length ≤ 32) (hR2 : 2 ≤ R) (hR4 : R ≤ 4) (hx : Rd w b word) (hl : word.length = C.length) (he : elems F.n word = true) :
    Calls Try.prog 14 #[.int .i64 q, .int .i64 R, .slice b word.length cb] w (ResL w (corr F R C word, 0)) := by
  subst hqn
  have ok := hG.ok
  obtain ⟨n2, n64⟩ := ok.n_bd
  have hwe : ∀ x ∈ word, 0 ≤ x ∧ x < F.n := fun x hx => elems_true.1 he x hx
  have hAI := fun W (h : Rd W b word) => l19Elements_any F.n b cb word W (by omega) (by omega) h
  rw [he] at hAI
  have hmk := fun W => run_make_row' (P := Try.prog) 22 2 (.int .i64 0) 8 Try.underlying22 Try.info_i64 rfl .i64 .i64 R (by omega) (by omega) W
  have hne : ((C.length : Int) != (word.length : Int)) = false := by rw [hl]; simp
  have hSl : (encTo F R C word word.length).length = R := encTo_len _ _ _ _ _
  have hSe := encTo_el ok R C word word.length
  have hpq := ok.p2
  have hp64 := ok.p64
  have hwr : IntKind.i64.wrap (F.p - 1) = F.p - 1 := IntWalk.i64_in _ (by omega)
  have hcor : ∃ (p : Nat) (f : Int), 0 ≤ f ∧ f < F.n ∧ (f ≠ 0 → p < C.length) ∧ f = lead (encTo F R C word word.length) ∧
      (∀ i, i < C.length → ∀ x : Int, 1 ≤ x → x < F.n → (scale F x (nthL C i) = encTo F R C word word.length ↔ f ≠ 0 ∧ i = p ∧ x = f)) ∧
      corr F R C word = (if f = 0 then word else word.set p (F.sub (nth word p) f)) := by
    have hlb := lead_bd (q := F.n) (by omega) hSe
    rw [hl]
    rw [hl] at hSl hSe hlb
    by_cases h0 : lead (encTo F R C word C.length) = 0
    · refine ⟨0, _, hlb.1, hlb.2, fun h => absurd h0 h, rfl, fun i hi x h1 h2 => ⟨fun e => ?_, fun e => absurd h0 e.1⟩, by rw [corr, if_pos h0, if_pos h0]⟩
      have h := cor_none hG (r := R) h0 (i := i) (by rw [← hC]; exact hi) h1 h2
      rw [← hC] at h
      exact absurd e h
    · obtain ⟨p, h1, h2, h3, h4⟩ := cor_place hG hSl hSe h0
      rw [← hC] at h1 h2 h3 h4
      refine ⟨p, _, hlb.1, hlb.2, fun _ => h1, rfl, fun i hi x hx1 hx2 => ⟨fun e => ⟨h0, (h4 i hi x hx1 hx2).1 e⟩, fun e => (h4 i hi x hx1 hx2).2 e.2⟩, ?_⟩
      rw [corr, if_neg h0, if_neg h0, plcC_eq h1 h2 (h3 p (Nat.le_refl _) h1)]
  obtain ⟨p, f, hf0, hfn, hpC, _, hiff, hcr⟩ := hcor
  obtain ⟨res, hres⟩ : ∃ res, res = corr F R C word := ⟨_, rfl⟩
  rw [← hres] at hcr ⊢
  have hrl : res.length = word.length := by
    rw [hcr]
    split
    · rfl
    · rw [List.length_set]
  have HCR := Lib.hid hcr
  have HRL := Lib.hid hrl
  have HIFF := hide hiff
  have HSL := Lib.hid hSl
  have HA := hide hA
  have HCC0 := hide hCC
  have HMK := hide hMk
  have HAI := hide hAI
  have HL := Lib.hid hl
  have HCM := hide hCM
  have HWE := hide hwe
  have HX := hide hx
  have HPC := hide hpC
  have HSE := hide hSe
  have hw3 : 3 ≤ word.length := by omega
  have hw32 : word.length ≤ 32 := by omega
  clear hres hSl hSe hA hCC hMk hAI hl hC hCM hwe hx he hcr hrl hiff hpC
  go_enter Try.func14, Try.ntmps14
  go_wp2_with fail
  refine (unhide HA _).mono ?_
  rintro e w1 ⟨rfl, rfl⟩
  go_wp2_with fail
  refine (unhide HAI _ (unhide HX)).mono ?_
  rintro e w1 ⟨rfl, rfl⟩
  go_wp2_with fail
  refine (unhide HCC0 _).mono ?_
  rintro e w1 ⟨v1, rfl, q1, b1⟩
  obtain ⟨au, cu, rfl, _⟩ := q1.form
  go_wp2_with fail
  refine (unhide HMK _).mono ?_
  rintro e w2 ⟨v2, rfl, o2, b2⟩
  obtain ⟨a2, c2, rfl, _, _⟩ := o2.form
  obtain ⟨W3, hHF⟩ : ∃ z, z = w2.alloc (.cells #[.int .i64 F.p, .int .i64 F.k, .slice a2 F.poly.length c2] 34) := ⟨_, rfl⟩
  have bF : Below w2.heap.size w2 W3 := by rw [hHF]; exact (Below.refl _ _).alloc (Nat.le_refl _) _
  have kF : Blk W3 w2.heap.size 34 #[.int .i64 F.p, .int .i64 F.k, .slice a2 F.poly.length c2] := by rw [hHF]; exact Blk.new _ _ _ rfl
  have HF := Lib.hid hHF
  clear hHF
  have d1 := Below.chain b2 bF
  have q3 := q1.below d1 (Nat.le_refl _)
  have d3 := Below.chain b1 d1
  have z3 := d3.size
  have o3 := o2.below bF (Nat.le_refl _)
  have hPF : PF W3 w2.heap.size F := ⟨kF.cell 0, kF.cell 1, a2, c2, kF.cell 2, o3.rd⟩
  have f00 := kF.cell 0
  have hgF := kF.lt
  have x3 := (unhide HX).below d3
  clear q1 o2 b2 bF d1 b1 o3 kF
  go_upto_region 9 with fail
  rw [← HF.out]
  go_upto_region 10 with fail
  obtain ⟨W5, hW5⟩ : ∃ z, z = W3.alloc (.cells (madeCells #[.int .i64 0] R) 2) := ⟨_, rfl⟩
  have oz : Own W5 W3.heap.size (.slice (some ⟨W3.heap.size, 0, none⟩) R R) (zeros R) := by rw [hW5]; exact Own.zeros W3 (Nat.le_refl _) (by omega)
  have bz : Below W3.heap.size W3 W5 := by rw [hW5]; exact (Below.refl _ _).alloc (Nat.le_refl _) _
  rw [← hW5]
  clear hW5
  have OZ := Lib.hid oz
  clear oz hmk
  obtain ⟨gc, oc, rfl, hgc, hcc⟩ := q3.rd.at_ (by omega)
  obtain ⟨gm, om, rfl, hgm, hcm⟩ := x3.at_ (by omega)
  have HCC := hide hcc
  have HCMM := hide hcm
  have HX3 := hide x3
  have HPF := hide hPF
  clear hcc hcm q3 x3 hPF
  go_wp2_with fail
  go_loopw [11] (fun iv wr => ∃ i : Nat, iv = .int .i64 i ∧ i ≤ word.length ∧ Hid (Own wr W3.heap.size (.slice (some ⟨W3.heap.size, 0, none⟩) R R) (encTo F R C word i)) ∧ Below W3.heap.size W3 wr) (fun iv _ => word.length - (intOf iv).toNat)
  case atStart => exact ⟨0, rfl, Nat.zero_le _, OZ, bz⟩
  case round =>
    obtain ⟨i, rfl, hi, ho, hb⟩ := hrel
    by_cases hil : i < word.length
    · have hc1 := unhide HCMM i hil
      have hxr := unhide HWE _ (nth_mem hil)
      have hir : i < C.length := by have := HL.out; omega
      obtain ⟨ai, ci, hr1, hrr⟩ := unhide HCC i hir
      have hmt := Mat_nth (unhide HCM) hir
      have hst : encTo F R C word (i + 1) = addTo F (encTo F R C word i) (nthL C i) (nth word i) R := rfl
      have hel := encTo_len F R C word i
      have hee := encTo_el ok R C word i
      obtain ⟨E, hE⟩ : ∃ E, E = encTo F R C word i := ⟨_, rfl⟩
      obtain ⟨x, hxx⟩ : ∃ x, x = nth word i := ⟨_, rfl⟩
      obtain ⟨row, hrow⟩ : ∃ row, row = nthL C i := ⟨_, rfl⟩
      rw [← hE] at ho hst hel hee
      rw [← hxx] at hc1 hxr hst
      rw [← hrow] at hr1 hrr hmt hst
      rw [hmt.1] at hr1
      obtain ⟨ge, oe, rfl, hge, hce⟩ := hrr.at_ (by rw [hmt.1]; omega)
      have HCE := hide hce
      have HST := Lib.hid hst
      have HMT := hide hmt
      have HEL := Lib.hid hel
      have HEE := hide hee
      clear hE hxx hrow hce hst hmt hel hee hrr
      go_wp2_with fail
      go_loopw [12] (fun kv wr => ∃ k : Nat, kv = .int .i64 k ∧ k ≤ R ∧ Hid (Own wr W3.heap.size (.slice (some ⟨W3.heap.size, 0, none⟩) R R) (addTo F E row x k)) ∧ Below W3.heap.size W3 wr) (fun kv _ => R - (intOf kv).toNat)
      case atStart => exact ⟨0, rfl, Nat.zero_le _, ho, hb⟩
      case round =>
        obtain ⟨k, rfl, hk, ho2, hb2⟩ := hrel
        by_cases hkn : k < R
        · have hsz := hb2.size
          have hal : (addTo F E row x k).length = R := by rw [addTo_len, HEL.out]
          have c36 := ho2.out.cell (j := k) (by rw [hal]; exact hkn)
          rw [addTo_nth F E row x k (by rw [HEL.out]; omega), if_neg (by omega)] at c36
          have f36 := ho2.out.frozen k
          have hG1 : W3.heap.size < wr.heap.size := World.block_lt_of_cell? wr _ c36
          have hek := unhide HEE _ (nth_mem (k := k) (by rw [HEL.out]; exact hkn))
          have c53 := unhide HCE k (by rw [(unhide HMT).1]; exact hkn)
          have hyr := (unhide HMT).2 _ (nth_mem (k := k) (by rw [(unhide HMT).1]; exact hkn))
          have hsu : addTo F E row x (k + 1) = (addTo F E row x k).set k (F.add (nth E k) (F.mul x (nth row k))) := rfl
          obtain ⟨e, hE⟩ : ∃ e, e = nth E k := ⟨_, rfl⟩
          obtain ⟨y, hY⟩ : ∃ y, y = nth row k := ⟨_, rfl⟩
          rw [← hE] at c36 hek hsu
          rw [← hY] at c53 hyr hsu
          have hmul := fun W (h : Below wr.heap.size wr W) => (l03Mul_any w2.heap.size F x y W ((unhide HPF).below (hb2.trans (h.mono hsz))) ok hxr.1 (by omega) hyr.1 (by omega)).mono fun e w' q => And.intro q.1 (Below.chain h q.2)
          change ∀ W, Below wr.heap.size wr W → Calls Try.prog 83 #[.pointer (some ⟨w2.heap.size, 0, none⟩), .int .i64 x, .int .i64 y] W fun e w' => e = .returned (.int .i64 (F.mul x y)) ∧ Below wr.heap.size wr w' at hmul
          have hMb := mul_bd ok x y
          obtain ⟨M, hM⟩ : ∃ M, M = F.mul x y := ⟨_, rfl⟩
          rw [← hM] at hmul hsu hMb
          have hsum := fun W (h : Below wr.heap.size wr W) => (l03Sum_any w2.heap.size F e M 1 W ((unhide HPF).below (hb2.trans (h.mono hsz))) ok hek.1 (by omega) hMb.1 (by omega) (by omega) (by omega)).mono fun e w' q => And.intro q.1 (Below.chain h q.2)
          change ∀ W, Below wr.heap.size wr W → Calls Try.prog 82 #[.pointer (some ⟨w2.heap.size, 0, none⟩), .int .i64 e, .int .i64 M, .int .i64 1] W fun r w' => r = .returned (.int .i64 (F.add e M)) ∧ Below wr.heap.size wr w' at hsum
          obtain ⟨D, hD⟩ : ∃ D, D = F.add e M := ⟨_, rfl⟩
          rw [← hD] at hsum hsu
          have c43 := (hb2.cell (p := ⟨gm, om + i, none⟩) hgm).trans hc1
          have c50 := (hb2.cell (p := ⟨gc, oc + i, none⟩) hgc).trans hr1
          have c53 := (hb2.cell (p := ⟨ge, oe + k, none⟩) hge).trans c53
          have later : ∀ W, Below wr.heap.size wr W → (W.cell? ⟨W3.heap.size, k, none⟩ = some (.int .i64 e) ∧ W.frozen? ⟨W3.heap.size, k, none⟩ = false) := fun W h => ⟨(h.cell (p := ⟨W3.heap.size, k, none⟩) hG1).trans c36, (ho2.out.below h (Nat.le_refl _)).frozen k⟩
          have LT := hide later
          have HMUL := hide hmul
          have HSUM := hide hsum
          have HSU := Lib.hid hsu
          clear hE hY hM hD hmul hsum hsu later hal hMb hek hyr
          go_upto_region 16 with fail
          go_region_with (first
            | (go_at_call 83; refine (unhide HMUL _ ?_).mono ?_; first | exact Below.refl _ _ | exact (Below.refl _ _).drew; rintro e W1 ⟨rfl, b1⟩; have d36 := (unhide LT _ b1).1)
            | (go_at_call 82; refine (unhide HSUM _ ?_).mono ?_; exact (by assumption); rintro e W2 ⟨rfl, b2⟩; have d37 := (unhide LT _ b2).1; have f37 := (unhide LT _ b2).2))
          all_goals
            go_wp2
            go_roundw
            case rel =>
              have hs := (ho2.out.below b2 (Nat.le_refl _)).set k D
              refine ⟨k + 1, by go_num, by omega, ?_, (hb2.trans (b2.mono hsz)).grown hs.2 (by have := b2.size; omega) (fun q hq => by injection hq; omega)⟩
              show Own _ _ _ _
              rw [HSU.out]
              exact hs.1
            case measure => simp only [intOf]; omega
        · have hke : k = R := by omega
          have HK := Lib.hid hke
          clear hke
          go_wp2_with fail
          go_roundw
          case rel =>
            refine ⟨i + 1, by go_num, by omega, ?_, hb2⟩
            show Own _ _ _ _
            rw [HST.out]
            have h := ho2.out
            rw [HK.out] at h
            exact h
          case measure => simp only [intOf]; omega
    · have hie : i = word.length := by omega
      have oS := ho.out
      rw [hie] at oS
      obtain ⟨S, hS⟩ : ∃ S, S = encTo F R C word word.length := ⟨_, rfl⟩
      rw [← hS] at oS
      have hsl := HSL.out
      rw [← hS] at hsl
      have hiff := unhide HIFF
      rw [← hS] at hiff
      have hcl := l00Own_any (some ⟨gm, om, none⟩) cb word wr ((unhide HX3).below hb)
      have HCL := hide hcl
      have HE := Lib.hid hie
      have HIF := hide hiff
      have hSL := Lib.hid hsl
      have HO := hide oS
      have hzr := hb.size
      clear hcl hie hS hsl oS ho hiff
      go_wp2_with fail
      refine (unhide HCL).mono ?_
      rintro e w6 ⟨v6, rfl, o6, b6⟩
      have z6 := b6.size
      have oS6 := (unhide HO).below b6 (Nat.le_refl _)
      obtain ⟨g6, c6, rfl, hg6, hg6', _, _⟩ := o6.at_len (n := word.length) rfl (by omega)
      have hb6 := Below.chain hb b6
      have z36 := hb6.size
      have hO6 := Lib.hid (show Own w6 wr.heap.size (.slice (some ⟨g6, 0, none⟩) word.length c6) (corAt word res p f 0 1) from by
        have e : corAt word res p f 0 1 = word := by
          unfold corAt
          rw [if_neg (by omega)]
        rw [e]
        exact o6)
      have hS6 := Lib.hid (show Own w6 W3.heap.size (.slice (some ⟨W3.heap.size, 0, none⟩) R R) S from oS6)
      have hzs : W3.heap.size < wr.heap.size := World.block_lt_of_cell? wr ⟨W3.heap.size, 0, none⟩ ((unhide HO).cell (j := 0) (by rw [hSL.out]; omega))
      clear o6 oS6
      have hww : wr.heap.size ≤ w6.heap.size := z6
      obtain ⟨Bo, hBo⟩ : ∃ Bo, Bo = wr.heap.size := ⟨_, rfl⟩
      rw [← hBo] at hO6 hzs hg6 hww
      have hBo2 : w.heap.size ≤ Bo := by omega
      clear hBo
      go_wp2_with fail
      go_loopw [14] (fun iv wr => ∃ i : Nat, iv = .int .i64 i ∧ i ≤ word.length ∧ Hid (Own wr Bo (.slice (some ⟨g6, 0, none⟩) word.length c6) (corAt word res p f i 1)) ∧ Hid (Own wr W3.heap.size (.slice (some ⟨W3.heap.size, 0, none⟩) R R) S) ∧ Below W3.heap.size W3 wr) (fun iv _ => word.length - (intOf iv).toNat)
      case atStart => exact ⟨0, rfl, Nat.zero_le _, hO6, hS6, hb6⟩
      case round =>
        obtain ⟨i, rfl, hi, ho, hs, hb7⟩ := hrel
        by_cases hil : i < word.length
        · have hir : i < C.length := by have := HL.out; omega
          obtain ⟨ai, ci, hr1, hrr⟩ := unhide HCC i hir
          have hmt := Mat_nth (unhide HCM) hir
          rw [hmt.1] at hr1
          have HRR := hide hrr
          have HMT := hide hmt
          clear hrr hmt
          go_wp2_with fail
          go_loopw [15] (fun xv wr => ∃ x : Nat, xv = .int .i64 x ∧ 1 ≤ x ∧ x ≤ F.n ∧ Hid (Own wr Bo (.slice (some ⟨g6, 0, none⟩) word.length c6) (corAt word res p f i x)) ∧ Hid (Own wr W3.heap.size (.slice (some ⟨W3.heap.size, 0, none⟩) R R) S) ∧ Below W3.heap.size W3 wr) (fun xv _ => F.n - (intOf xv).toNat)
          case atStart => exact ⟨1, rfl, Nat.le_refl _, by omega, ho, hs, hb7⟩
          case round =>
            obtain ⟨x, rfl, hx1, hxn, ho2, hs2, hb2⟩ := hrel
            have hsz := hb2.size
            by_cases hxl : x < F.n
            · have c84 := (hb2.cell (p := ⟨gc, oc + i, none⟩) hgc).trans hr1
              have hsc := l17Scale_any w2.heap.size F ai ci (nthL C i) x wr ((unhide HPF).below hb2) ok ((unhide HRR).below hb2) (by omega) (by omega) (unhide HMT).2
              rw [(unhide HMT).1] at hsc
              have hi1 := unhide HIF i hir x (by omega) (by omega)
              have hscl := scale_len F x (nthL C i)
              rw [(unhide HMT).1] at hscl
              obtain ⟨sc, hscd⟩ : ∃ sc, sc = scale F x (nthL C i) := ⟨_, rfl⟩
              rw [← hscd] at hsc hi1 hscl
              have HSC := hide hsc
              have HI1 := Lib.hid hi1
              have HSCL := Lib.hid hscl
              clear hsc hi1 hscd hscl
              go_wp2_with fail
              refine (unhide HSC).mono ?_
              rintro e w7 ⟨v7, rfl, o7, b7⟩
              obtain ⟨a7, c7, rfl, r7, _⟩ := o7.form
              have oS7 := hs2.out.below b7 (Nat.le_refl _)
              have oO7 := ho2.out.below b7 (Nat.le_refl _)
              have hb8 := Below.chain hb2 b7
              have z8 := b7.size
              have hsm := l00Same_any a7 (some ⟨W3.heap.size, 0, none⟩) c7 R sc S w7 r7 (by have h := oS7.rd; exact h)
              rw [HSCL.out, hSL.out] at hsm
              rw [HSCL.out]
              by_cases hit : sc = S
              · have hh := HI1.out.1 hit
                rw [show decide (sc = S) = true from decide_eq_true hit] at hsm
                have HSM := hide hsm
                obtain ⟨hat, hat2⟩ := corAt_hit (word := word) (res := res) hh
                have hrs := HCR.out
                rw [if_neg hh.1] at hrs
                rw [hat] at oO7
                have hpw : i < word.length := hil
                have hcw := oO7.cell (j := i) hpw
                have hwr := unhide HWE _ (nth_mem hpw)
                rw [← hh.2.1, ← hh.2.2] at hrs
                obtain ⟨y, hY⟩ : ∃ y, y = nth word i := ⟨_, rfl⟩
                rw [← hY] at hcw hwr hrs
                have HHIT := Lib.hid hit
                have HAT := Lib.hid hat2
                have HRS := Lib.hid hrs
                have OO := hide oO7
                clear hsm hh hat hat2 hrs hY hit ho2 oO7
                go_wp2_with fail
                refine (unhide HSM).mono ?_
                rintro e w8 ⟨rfl, t8⟩
                have b8 := t8.below w7.heap.size
                have oO8 := (unhide OO).below b8 (Nat.le_refl _)
                have oS8 := oS7.below b8 (Nat.le_refl _)
                have hb9 := Below.chain hb8 b8
                have z9 := hb9.size
                have hsum := fun W (h : Below w8.heap.size w8 W) => (l03Sum_any w2.heap.size F y x (F.p - 1) W ((unhide HPF).below (Below.chain hb9 h)) ok hwr.1 (by omega) (by omega) (by omega) (by omega) (by omega)).mono fun e w' q => And.intro q.1 (Below.chain h q.2)
                rw [show lin (F.p - 1) F.p F.k y x = F.sub y x from lin_sign F.k y x] at hsum
                change ∀ W, Below w8.heap.size w8 W → Calls Try.prog 82 #[.pointer (some ⟨w2.heap.size, 0, none⟩), .int .i64 y, .int .i64 x, .int .i64 (F.p - 1)] W fun r w' => r = .returned (.int .i64 (F.sub y x)) ∧ Below w8.heap.size w8 w' at hsum
                have hrs := HRS.out
                obtain ⟨D, hD⟩ : ∃ D, D = F.sub y x := ⟨_, rfl⟩
                rw [← hD] at hsum hrs
                have c36 := oO8.cell (j := i) hpw
                have e36 : nth word i = y := by
                  have h1 := (unhide OO).cell (j := i) hpw
                  rw [hcw] at h1
                  injection h1 with h1
                  injection h1 with _ h1
                  exact h1.symm
                rw [e36] at c36
                have f36 := oO8.frozen i
                have hG1 : g6 < w8.heap.size := World.block_lt_of_cell? w8 _ c36
                have later : ∀ W, Below w8.heap.size w8 W → (W.cell? ⟨g6, i, none⟩ = some (.int .i64 y) ∧ W.frozen? ⟨g6, i, none⟩ = false) := fun W h => ⟨(h.cell (p := ⟨g6, i, none⟩) hG1).trans c36, (oO8.below h (Nat.le_refl _)).frozen i⟩
                have f97 := (hb9.cell (p := ⟨w2.heap.size, 0, none⟩) hgF).trans f00
                have LT := hide later
                have HSUM := hide hsum
                have HRS2 := Lib.hid hrs
                have OO8 := hide oO8
                have OS8 := hide oS8
                clear later hsum hrs hD e36 oO8 oS8 oS7 hcw
                go_wp2_with fail
                go_upto_region 25 with fail
                go_region_with (first
                  | (go_at_call 82; refine (unhide HSUM _ ?_).mono ?_; first | exact Below.refl _ _ | exact (Below.refl _ _).drew; rintro e W2 ⟨rfl, b9⟩; have d37 := (unhide LT _ b9).1; have f37 := (unhide LT _ b9).2))
                all_goals
                  go_wp2
                  go_roundw
                  case rel =>
                    have hs9 := ((unhide OO8).below b9 (Nat.le_refl _)).set i D
                    refine ⟨x + 1, by go_num, by omega, by omega, ?_, ?_, (Below.chain hb9 b9).grown hs9.2 (by have := b9.size; omega) (fun q hq => by injection hq; omega)⟩
                    · show Own _ _ _ _
                      rw [show ((x + 1 : Nat) : Int) = (x : Int) + 1 from by omega, HAT.out, HRS2.out]
                      exact hs9.1
                    · exact ((unhide OS8).below b9 (Nat.le_refl _)).grow hs9.2 (.inr (by
                        intro e
                        injection e with e
                        have e : W3.heap.size = g6 := e
                        omega))
                  case measure => simp only [intOf]; omega
              · have hh : ¬ (f ≠ 0 ∧ i = p ∧ (x : Int) = f) := fun h => hit (HI1.out.2 h)
                rw [show decide (sc = S) = false from decide_eq_false hit] at hsm
                have HSM := hide hsm
                have HAT := Lib.hid (corAt_miss (word := word) (res := res) hh)
                clear hsm hh hit
                go_wp2_with fail
                refine (unhide HSM).mono ?_
                rintro e w8 ⟨rfl, t8⟩
                have b8 := t8.below w7.heap.size
                go_wp2_with fail
                go_roundw
                case rel =>
                  refine ⟨x + 1, by go_num, by omega, by omega, ?_, oS7.below b8 (Nat.le_refl _), Below.chain hb8 b8⟩
                  show Own _ _ _ _
                  rw [show ((x + 1 : Nat) : Int) = (x : Int) + 1 from by omega, HAT.out]
                  exact oO7.below b8 (Nat.le_refl _)
                case measure => simp only [intOf]; omega
            · have hxe : x = F.n := by omega
              have HE2 := Lib.hid hxe
              clear hxe
              go_wp2_with fail
              go_roundw
              case rel =>
                refine ⟨i + 1, by go_num, by omega, ?_, hs2, hb2⟩
                show Own _ _ _ _
                rw [corAt_next hf0 hfn, ← HE2.out]
                exact ho2.out
              case measure => simp only [intOf]; omega
        · have hie : i = word.length := by omega
          have hend := corAt_end (word := word) (res := res) (p := p) (n := word.length) (f := f) (fun h => by have := unhide HPC h; have := HL.out; omega) (fun h => by have h2 := HCR.out; rw [if_pos h] at h2; exact h2)
          have o9 := ho.out
          rw [hie, hend] at o9
          have HE2 := Lib.hid hie
          have HRL2 := Lib.hid HRL.out
          clear hie hend
          go_wp2_with fail
          go_ret2
          exact ⟨_, rfl, o9.mono hBo2, Below.chain d3 hb7⟩
end Go.Proofs.Ytgmgpcaahanmiaa

/-
  Walks: CorrectHamming on both sides, all cases.
-/
namespace Go.Proofs.Ytgmgpcaahanmiaa
open Go.RowKit
attribute [local go_sem ↓] Go.wp_at_zero Go.wp_at_succ
def corRes (q r : Int) (word : List Int) : List Int × Int :=
  if (isField q && colsOk q r) = true then (if elems q word = true then (if word.length = (hcols q r).length then (corr (fdOf q) r.toNat (hcols q r) word, 0) else ([], 6)) else ([], 1)) else ([], 2)
/-- What q and r are where the columns are good. -/
theorem cor_facts {q r : Int} (hk : (isField q && colsOk q r) = true) : ∃ (F : FD) (R : Nat), F.Good ∧ fdOf q = F ∧ q = F.n ∧ r = R ∧ 2 ≤ R ∧ R ≤ 4 ∧ hcols q r = colsUp F.n R (F.n ^ R) ∧ F.Mat R (hcols q r) ∧ 3 ≤ (hcols q r).length ∧ (hcols q r).length ≤ 32 ∧ many F.n R ≤ 32 := by
  rw [Bool.and_eq_true] at hk
  obtain ⟨hf, hc⟩ := hk
  obtain ⟨h1, h2, h3, h4, h5⟩ := hcols_bd hf hc
  obtain ⟨ok, hpk, _⟩ := fdOf_ok hf
  obtain ⟨c1, c2, c3⟩ := colsOk_true hc
  have hn : q = ((fdOf q).n : Int) := by rw [← ok.n_eq, hpk]
  have hqt : q.toNat = (fdOf q).n := by omega
  refine ⟨fdOf q, r.toNat, fdOf_good hf, rfl, hn, by omega, h1, h2, ?_, h5, h3, h4, ?_⟩
  · rw [hcols, hqt]
  · rw [← hqt]; exact c3
set_option maxRecDepth 100000 in
set_option maxHeartbeats 1600000 in
theorem implCO_any (q r : Int) (b : Option Addr) (cb : Nat) (word : List Int) (w : World) (hx : Rd w b word) : Calls Try.prog 16 #[.int .i64 q, .int .i64 r, .slice b word.length cb] w (ResL w (corRes q r word)) := by
  have hxl := hx.len
  cases hk : (isField q && colsOk q r) with
  | false =>
    rw [show corRes q r word = ([], 2) by rw [corRes, hk]; rfl]
    have hV := fun W => checked_no q r W hk
    have HV := hide hV
    have HX := hide hx
    clear hV hk hx
    go_enter Try.func16, Try.ntmps16
    go_wp2_with fail
    refine (unhide HV _).mono ?_
    rintro e w1 ⟨rfl, b1⟩
    go_wp2
    go_ret2
    exact ⟨_, rfl, Own.nil _ _, b1.trans ((Below.refl _ _).alloc b1.size _)⟩
  | true =>
    obtain ⟨F, R, hG, hFq, hqn, rfl, hR2, hR4, hC, hCM, hC3, hC32, _⟩ := cor_facts hk
    have ok := hG.ok
    obtain ⟨n2, n64⟩ := ok.n_bd
    rw [Bool.and_eq_true] at hk
    have hV := fun W => checked_yes q R W hk.1 hk.2
    rw [hFq] at hV
    have hres : corRes q R word = if elems q word = true then (if word.length = (hcols q R).length then (corr F R (hcols q R) word, 0) else ([], 6)) else ([], 1) := by
      rw [corRes, hk.1, hk.2, hFq, Int.toNat_natCast]; rfl
    rw [hres]
    generalize hcols q (R : Int) = C at *
    clear hres hFq hk
    subst hqn
    cases he : elems F.n word with
    | true =>
      rw [if_pos rfl]
      by_cases hl : word.length = C.length
      · rw [if_pos hl]
        exact implCO_ok F R C b cb word w hV hG hC hCM hC3 hC32 hR2 hR4 hx hl he
      · rw [if_neg hl]
        have hAI := fun W (h : Rd W b word) => areIn_any F.n b cb word W (by omega) (by omega) h
        rw [he] at hAI
        have hne : ((word.length : Int) != (C.length : Int)) = true := by rw [bne_iff_ne]; omega
        have HV := hide hV
        have HAI := hide hAI
        have HX := hide hx
        have HL := hide hl
        clear hV hAI hx hC hCM he hl
        go_enter Try.func16, Try.ntmps16
        go_wp2_with fail
        refine (unhide HV _).mono ?_
        rintro e w1 ⟨v1, u1, rfl, o1, q1, b1⟩
        obtain ⟨a1, c1, rfl, _, _⟩ := o1.form
        obtain ⟨au, cu, rfl, _⟩ := q1.form
        obtain ⟨W1, hHF⟩ : ∃ z, z = w1.alloc (.cells #[.int .i64 F.p, .int .i64 F.k, .slice a1 F.poly.length c1] 34) := ⟨_, rfl⟩
        have bF : Below w1.heap.size w1 W1 := by rw [hHF]; exact (Below.refl _ _).alloc (Nat.le_refl _) _
        have HF := Lib.hid hHF
        clear hHF
        have d1 := Below.chain b1 bF
        clear o1 q1 b1 bF
        go_upto_region 2 with fail
        rw [← HF.out]
        go_wp2_with fail
        refine (unhide HAI _ ((unhide HX).below d1)).mono ?_
        rintro e w2 ⟨rfl, b2⟩
        have d2 := Below.chain d1 b2
        clear d1 b2
        go_wp2
        go_ret2
        exact ⟨_, rfl, Own.nil _ _, d2⟩
    | false =>
      rw [if_neg (by simp)]
      have hAI := fun W (h : Rd W b word) => areIn_any F.n b cb word W (by omega) (by omega) h
      rw [he] at hAI
      have HV := hide hV
      have HAI := hide hAI
      have HX := hide hx
      clear hV hAI hx hC hCM he
      go_enter Try.func16, Try.ntmps16
      go_wp2_with fail
      refine (unhide HV _).mono ?_
      rintro e w1 ⟨v1, u1, rfl, o1, q1, b1⟩
      obtain ⟨a1, c1, rfl, _, _⟩ := o1.form
      obtain ⟨au, cu, rfl, _⟩ := q1.form
      obtain ⟨W1, hHF⟩ : ∃ z, z = w1.alloc (.cells #[.int .i64 F.p, .int .i64 F.k, .slice a1 F.poly.length c1] 34) := ⟨_, rfl⟩
      have bF : Below w1.heap.size w1 W1 := by rw [hHF]; exact (Below.refl _ _).alloc (Nat.le_refl _) _
      have HF := Lib.hid hHF
      clear hHF
      have d1 := Below.chain b1 bF
      clear o1 q1 b1 bF
      go_upto_region 2 with fail
      rw [← HF.out]
      go_wp2_with fail
      refine (unhide HAI _ ((unhide HX).below d1)).mono ?_
      rintro e w2 ⟨rfl, b2⟩
      have d2 := Below.chain d1 b2
      clear d1 b2
      go_wp2
      go_ret2
      exact ⟨_, rfl, Own.nil _ _, d2⟩
set_option maxRecDepth 100000 in
set_option maxHeartbeats 1600000 in
theorem specCO_any (q r : Int) (b : Option Addr) (cb : Nat) (word : List Int) (w : World) (hx : Rd w b word) : Calls Try.prog 14 #[.int .i64 q, .int .i64 r, .slice b word.length cb] w (ResL w (corRes q r word)) := by
  have hxl := hx.len
  have hA := fun W => l19Ask_any q r W
  cases hk : (isField q && colsOk q r) with
  | false =>
    rw [show corRes q r word = ([], 2) by rw [corRes, hk]; rfl]
    rw [hk] at hA
    have HA := hide hA
    clear hA hk hx
    go_enter Try.func14, Try.ntmps14
    go_wp2_with fail
    refine (unhide HA _).mono ?_
    rintro e w1 ⟨rfl, rfl⟩
    go_wp2
    go_ret2
    exact ⟨_, rfl, Own.nil _ _, Below.refl _ _⟩
  | true =>
    obtain ⟨F, R, hG, hFq, hqn, rfl, hR2, hR4, hC, hCM, hC3, hC32, hmany⟩ := cor_facts hk
    have ok := hG.ok
    obtain ⟨n2, n64⟩ := ok.n_bd
    rw [hk] at hA
    rw [Bool.and_eq_true] at hk
    have hMk := fun W => l03Make_any q W hk.1
    rw [hFq] at hMk
    have hCC := fun W => l19Columns_any F.n R W (by omega) (by omega) hR2 hR4 hmany
    rw [← hqn] at hCC
    have hres : corRes q R word = if elems q word = true then (if word.length = (hcols q R).length then (corr F R (hcols q R) word, 0) else ([], 6)) else ([], 1) := by
      rw [corRes, hk.1, hk.2, hFq, Int.toNat_natCast]; rfl
    rw [hres]
    generalize hcols q (R : Int) = C at *
    clear hres hFq hk
    subst hqn
    have hAI := fun W (h : Rd W b word) => l19Elements_any F.n b cb word W (by omega) (by omega) h
    cases he : elems F.n word with
    | true =>
      rw [if_pos rfl]
      by_cases hl : word.length = C.length
      · rw [if_pos hl]
        exact specCO_ok F F.n R C b cb word w rfl hA hCC hMk hG hC hCM hC3 hC32 hR2 hR4 hx hl he
      · rw [if_neg hl]
        rw [he] at hAI
        have hne : ((C.length : Int) != (word.length : Int)) = true := by rw [bne_iff_ne]; omega
        have HA := hide hA
        have HAI := hide hAI
        have HCC := hide hCC
        have HX := hide hx
        have HL := hide hl
        clear hA hAI hCC hx hC hCM he hl hMk
        go_enter Try.func14, Try.ntmps14
        go_wp2_with fail
        refine (unhide HA _).mono ?_
        rintro e w1 ⟨rfl, rfl⟩
        go_wp2_with fail
        refine (unhide HAI _ (unhide HX)).mono ?_
        rintro e w1 ⟨rfl, rfl⟩
        go_wp2_with fail
        refine (unhide HCC _).mono ?_
        rintro e w1 ⟨v1, rfl, q1, b1⟩
        obtain ⟨au, cu, rfl, _⟩ := q1.form
        clear q1
        go_wp2
        go_ret2
        exact ⟨_, rfl, Own.nil _ _, b1⟩
    | false =>
      rw [if_neg (by simp)]
      rw [he] at hAI
      have HA := hide hA
      have HAI := hide hAI
      have HX := hide hx
      clear hA hAI hCC hx hC hCM he hMk
      go_enter Try.func14, Try.ntmps14
      go_wp2_with fail
      refine (unhide HA _).mono ?_
      rintro e w1 ⟨rfl, rfl⟩
      go_wp2_with fail
      refine (unhide HAI _ (unhide HX)).mono ?_
      rintro e w1 ⟨rfl, rfl⟩
      go_wp2
      go_ret2
      exact ⟨_, rfl, Own.nil _ _, Below.refl _ _⟩
end Go.Proofs.Ytgmgpcaahanmiaa

