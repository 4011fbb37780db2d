/-
  Proved: FnExactGriesmerLength returns true for every input and leaves its arguments as they were. No condition.
-/
import Derived.Test.YtcdfabnhaephhaaGri
import Derived.Test.YtcdfabnhaephhaaOpen
namespace Go.Proofs.Ytcdfabnhaephhaa
open Go.RowKit

theorem mkF_code (q : Int) : (mkF q).2.2.2 = if isField q then 0 else 2 := by unfold mkF; split <;> rfl
theorem mkF_ok {q : Int} (h : isField q = true) : (mkF q).2.2.2 = 0 := by rw [mkF_code, if_pos h]
theorem mkF_bad {q : Int} (h : isField q = false) : (mkF q).2.2.2 = 2 := by rw [mkF_code, h]; rfl

theorem gI_bd {q d : Int} (hq : 2 ≤ q) (hq64 : q ≤ 64) (hd : 1 ≤ d) (hd2 : d ≤ 32) (i : Nat) (hi : i ≤ 8) : 0 ≤ gI q d i ∧ gI q d i ≤ 32 * i := by
  obtain ⟨n, rfl⟩ := Int.eq_ofNat_of_zero_le (show 0 ≤ q by omega)
  obtain ⟨m, rfl⟩ := Int.eq_ofNat_of_zero_le (show 0 ≤ d by omega)
  rw [gri_eq n (by omega) (by omega) m (by omega) i (by omega)]
  exact ⟨(gS_bd hq hd hd2 i).1, (gS_bd hq hd hd2 i).2.1⟩

set_option maxHeartbeats 800000 in
theorem implGri_any (q k d : Int) (w : World) :
    Calls Try.prog 21 #[.int .i64 q, .int .i64 k, .int .i64 d] w fun e w' => e = .returned (.tuple #[.int .i64 (griRes q k d).1, .int .i64 (griRes q k d).2]) ∧ Below w.heap.size w w' := by
  generalize hR : griRes q k d = R
  have HR := Lib.hid hR
  clear hR
  go_enter Try.func21, Try.ntmps21
  go_wp2_with fail
  refine (MakeField_any q w).mono ?_
  rintro e w1 ⟨v1, rfl, o1, b1⟩
  obtain ⟨a1, c1, rfl, _, _⟩ := o1.form
  have s1 := b1.size
  have hb := b1.alloc s1 (.cells #[.int .i64 (mkF q).1, .int .i64 (mkF q).2.1, .slice a1 (mkF q).2.2.1.length c1] 49)
  rcases hf : isField q with _ | _
  · rw [mkF_bad hf]
    have HF := Lib.hid hf
    clear hf
    go_wp2
    go_ret2
    have e1 : R = (0, 2) := by rw [← HR.out, griRes, HF.out]; rfl
    exact ⟨ret_ints2 (by rw [e1]) (by rw [e1]), hb⟩
  · rw [mkF_ok hf]
    obtain ⟨hq2, hq64, _⟩ := isField_size hf
    have HF := Lib.hid hf
    clear hf
    go_wp2_with fail
    refine (within_any k 1 8 _).mono ?_
    rintro e w2 ⟨rfl, rfl⟩
    rcases hk : inB k 1 8 with _ | _
    · have HK := Lib.hid hk
      clear hk
      go_wp2
      go_ret2
      have e1 : R = (0, 2) := by rw [← HR.out, griRes, HF.out, HK.out]; rfl
      exact ⟨ret_ints2 (by rw [e1]) (by rw [e1]), hb⟩
    · obtain ⟨hk1, hk8⟩ := inB_true.1 hk
      have HK := Lib.hid hk
      clear hk
      go_wp2_with fail
      refine (within_any d 1 32 _).mono ?_
      rintro e w2 ⟨rfl, rfl⟩
      rcases hd : inB d 1 32 with _ | _
      · have HD := Lib.hid hd
        clear hd
        go_wp2
        go_ret2
        have e1 : R = (0, 2) := by rw [← HR.out, griRes, HF.out, HK.out, HD.out]; rfl
        exact ⟨ret_ints2 (by rw [e1]) (by rw [e1]), hb⟩
      · obtain ⟨hd1, hd32⟩ := inB_true.1 hd
        have HD := Lib.hid hd
        clear hd
        have e1 : R = ((gS q d k.toNat).1, 0) := by rw [← HR.out, griRes, HF.out, HK.out, HD.out]; rfl
        obtain ⟨K, rfl⟩ := Int.eq_ofNat_of_zero_le (show 0 ≤ k by omega)
        rw [Int.toNat_natCast] at e1
        have E1 := Lib.hid e1
        clear e1
        go_wp2_with fail
        go_loop [10, 31] (fun ov iv => ∃ (i : Nat) (o : Int), iv = .int .i64 i ∧ i ≤ K ∧ ov = .int .i64 o ∧ 0 ≤ o ∧ o ≤ 32 * i ∧ Hid (gI q d i = o)) (fun _ iv => K - (intOf iv).toNat)
        case atStart => exact ⟨0, 0, rfl, by omega, rfl, by omega, by omega, rfl⟩
        case round =>
          obtain ⟨i, o, rfl, hi, rfl, ho0, ho1, hg⟩ := hrel
          by_cases hik : i < K
          · have hg1 : gI q d (i + 1) = o + (d + capTo q 32 i - 1) / capTo q 32 i := by rw [gI, hg.out]
            have hc1 := capTo_pos (b := q) (l := 32) (by omega) i
            have hc2 := capTo_le (b := q) (l := 32) (by omega) (by omega) i
            have hbd := gI_bd hq2 hq64 hd1 hd32 (i + 1) (by omega)
            rw [hg1] at hbd
            have hpw := fun W => powerUpTo_any q i 32 W (by omega) (by omega) (by omega) (by omega) (by omega)
            simp only [Int.toNat_natCast] at hpw
            generalize capTo q 32 i = B at hg1 hc1 hc2 hbd hpw
            have hB : B ≤ 2048 := by omega
            have hq0 : 0 ≤ (d + B - 1) / B := Int.ediv_nonneg (by omega) (by omega)
            have hq1 : (d + B - 1) / B ≤ d + B - 1 := Int.ediv_le_self _ (by omega)
            have HG := Lib.hid hg1
            have HPW := hide hpw
            obtain ⟨hbd1, hbd2⟩ := hbd
            clear hg1 hg hpw hc2
            go_wp2_with fail
            refine (unhide HPW _).mono ?_
            rintro e w2 ⟨rfl, rfl⟩
            go_wp2
            go_round
            case rel => exact ⟨i + 1, o + (d + B - 1) / B, by go_num, by omega, rfl, by omega, by omega, HG⟩
            case measure => simp only [intOf]; omega
          · obtain rfl : i = K := by omega
            go_wp2
            go_ret2
            have e2 := hg.out
            have e3 := E1.out
            obtain ⟨n, rfl⟩ := Int.eq_ofNat_of_zero_le (show 0 ≤ q by omega)
            obtain ⟨m, rfl⟩ := Int.eq_ofNat_of_zero_le (show 0 ≤ d by omega)
            rw [gri_eq n (by omega) (by omega) m (by omega) i (by omega)] at e2
            exact ⟨ret_ints2 (by rw [e3]; exact e2.symm) (by rw [e3]), hb⟩

theorem lawGri (q k d : Int) (w : World) :
    Calls Try.prog 5 #[.int .i64 q, .int .i64 k, .int .i64 d] w fun e w' => e = .returned (.bool true) ∧ Below w.heap.size w w' := by
  go_enter Try.func5, Try.ntmps5
  go_wp2_with fail
  refine (specGri_any q k d w).mono ?_
  rintro e w1 ⟨rfl, rfl⟩
  go_wp2_with fail
  refine (implGri_any q k d w).mono ?_
  rintro e w1 ⟨rfl, b1⟩
  go_wp2
  go_ret
  exact ⟨rfl, b1⟩
theorem lawGri' (q k d : Int) (w : World) (_ : I64 q) (_ : I64 k) (_ : I64 d) :
    Calls Try.prog 5 #[.int .i64 q, .int .i64 k, .int .i64 d] w fun e w' => e = .returned (.bool true) ∧ Below w.heap.size w w' := lawGri q k d w

namespace fnExactGriesmerLength
open Go.ChangeShapes Go.WideShapes Go.ChangeAt

set_option maxRecDepth 100000 in
set_option maxHeartbeats 800000 in
theorem lifted (os : Os) (started : os.Started) (H : Type) (enc : TypeId × Value → H) :
    ReturnsInHanded {} Try.checked os 5 .any (Rows.fnExactGriesmerLengthSpec.pre6 enc Try.prog Try.f5 Rows.fnExactGriesmerLengthRow.domain false) (Rows.fnExactGriesmerLengthSpec.post enc Try.prog Try.f5 false true false false) := by
  refine returnsInHanded_of_change (C := Try.checked) ownKnob_none started (by kernel_rfl) Try.func5
    (ChangeSpec.witness6 (enc := enc) (C := Try.checked) false ⟨#[], #[.int .i64 0, .int .i64 0, .int .i64 0], []⟩ 8 (by kernel_rfl) (by kernel_rfl) (by kernel_rfl) (by kernel_rfl)) ?_
  intro W base args ds gs before hval0 hW _ _
  have hval : ∀ (j : Nat) t v, Try.f5.params[j]? = some t → args[j]? = some v → Value.okWide Try.prog W .any base t v := hval0
  have hW' := hW
  obtain ⟨p, q, hA0, hV, rfl, hfz, hnd⟩ := hW
  have hA : DataW.TrodAll enc Try.prog W 0 (fun _ => true) true Try.f5.params.toList args.toList ds p := hA0
  rw [Try.params5] at hA hval
  obtain ⟨v0, vs0, d0, ds0, p0, q0, hargs, rfl, rfl, h0, r0⟩ := trodAll_cons hA
  obtain ⟨v1, vs1, d1, ds1, p1, q1, rfl, rfl, rfl, h1, r1⟩ := trodAll_cons r0
  obtain ⟨v2, vs2, d2, ds2, p2, q2, rfl, rfl, rfl, h2, r2⟩ := trodAll_cons r1
  obtain ⟨rfl, rfl, rfl⟩ := trodAll_nil r2
  obtain rfl : args = #[v0, v1, v2] := by cases args; simp_all
  obtain ⟨rfl, rfl⟩ := trodVars_none hV
  have k0 := h0
  have lt0 : ∀ x ∈ p0, x.block < W.heap.size := by obtain ⟨m, hm⟩ := k0; exact DataW.trod_lt m _ _ _ hm
  obtain ⟨a0, rfl, e0⟩ := open_i64 (hval 0 2 v0 rfl rfl) h0
  have k1 := h1
  have lt1 : ∀ x ∈ p1, x.block < W.heap.size := by obtain ⟨m, hm⟩ := k1; exact DataW.trod_lt m _ _ _ hm
  obtain ⟨a1, rfl, e1⟩ := open_i64 (hval 1 2 v1 rfl rfl) h1
  have k2 := h2
  have lt2 : ∀ x ∈ p2, x.block < W.heap.size := by obtain ⟨m, hm⟩ := k2; exact DataW.trod_lt m _ _ _ hm
  obtain ⟨a2, rfl, e2⟩ := open_i64 (hval 2 2 v2 rfl rfl) h2
  clear hA0 hval0
  refine (lawGri' a0 a1 a2 W e0 e1 e2).mono fun e W' ⟨he, bel⟩ => ?_
  subst he
  exact ⟨_, rfl, _, _, _, [], _, [], hW', trodAll_mk1 (shut_bool Try.underlying4 _), (trodAll_cons_mk (Below.trod laidOut_ok (by kernel_rfl) (of_decide_eq_true (by kernel_rfl)) k0 bel lt0) (trodAll_cons_mk (Below.trod laidOut_ok (by kernel_rfl) (of_decide_eq_true (by kernel_rfl)) k1 bel lt1) (trodAll_cons_mk (Below.trod laidOut_ok (by kernel_rfl) (of_decide_eq_true (by kernel_rfl)) k2 bel lt2) trodAll_mk0))), rfl, bel.frame _, fun h => by cases h⟩

theorem over : Rows.fnExactGriesmerLengthRow.holds Try.pinned (OpenSpec.ofChange Rows.fnExactGriesmerLengthSpec) :=
  OpenClaim.holds_of_wide 5 Try.f5 rfl rfl rfl rfl rfl rfl rfl ⟨rfl, rfl, rfl, rfl, rfl⟩ rfl rfl rfl rfl rfl (by kernel_rfl) Try.func5 (by kernel_rfl)
    (of_decide_eq_true (by kernel_rfl)) (by unfold Func.isWrapper; first | (rw [if_pos (by decide +kernel)]; kernel_rfl) | (rw [if_neg (by decide +kernel)]; exact ⟨rfl, rfl⟩))
    (fun os started H enc _ => lifted os started H enc)

theorem proved : Rows.FnExactGriesmerLengthSaid := over
#print axioms proved
end fnExactGriesmerLength
end Go.Proofs.Ytcdfabnhaephhaa
