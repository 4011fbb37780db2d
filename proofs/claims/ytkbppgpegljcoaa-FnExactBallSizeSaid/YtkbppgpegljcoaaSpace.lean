/-
  Walks of l19Power, l19Space, isSpace.
-/
import Derived.Test.YtkbppgpegljcoaaFields
namespace Go.Proofs.Ytkbppgpegljcoaa
open Go.RowKit

/-- The bound of the spaces. -/
def LIM : Int := 1000000000000
/-- A power, or -1 where it passes the bound. -/
def powS (b : Int) (m : Nat) : Int := if capTo b LIM m ≤ LIM then capTo b LIM m else -1
theorem powS_yes {b : Int} {m : Nat} (h : capTo b LIM m ≤ LIM) : powS b m = capTo b LIM m := if_pos h
theorem powS_no {b : Int} {m : Nat} (h : ¬ capTo b LIM m ≤ LIM) : powS b m = -1 := if_neg h
theorem capTo_anti {b l : Int} {j k : Nat} (hjk : j ≤ k) (h : capTo b l k ≤ l) : capTo b l j ≤ l := by
  rcases Int.lt_or_le l (capTo b l j) with h1 | h1
  · have := capTo_stop (b := b) (l := l) (k := j) (by omega) k hjk
    omega
  · exact h1

set_option maxHeartbeats 400000 in
theorem l19Power_any (b m : Int) (w : World) (hb : 0 ≤ b) (hb2 : b ≤ 1000) (hm : m ≤ 9223372036854775807) :
    Calls Try.prog 63 #[.int .i64 b, .int .i64 m] w fun e w' => e = .returned (.int .i64 (powS b m.toNat)) ∧ w = w' := by
  go_enter Try.func63, Try.ntmps63
  go_wp2
  go_loop [5, 6] (fun ov iv => ∃ (i : Nat) (o : Int), iv = .int .i64 i ∧ ov = .int .i64 o ∧ 0 ≤ o ∧ o ≤ 1000000000000 ∧ Hid (i ≤ m.toNat) ∧ (i : Int) ≤ 9223372036854775807 ∧ Hid (capTo b LIM i = o)) (fun _ iv => (m - intOf iv).toNat)
  case atStart => exact ⟨0, 1, rfl, rfl, by omega, by omega, Nat.zero_le _, by omega, rfl⟩
  case round =>
    obtain ⟨i, o, rfl, rfl, ho0, ho1, hi, hi2, hc⟩ := hrel
    by_cases him : (i : Int) < m
    · have hp0 : 0 ≤ o * b := Int.mul_nonneg ho0 hb
      have hp1 : o * b ≤ 1000000000000000 := by
        have := Int.mul_le_mul ho1 hb2 hb (by omega)
        omega
      have hc1 : capTo b LIM (i + 1) = o * b := by rw [capTo_go (by rw [hc.out]; unfold LIM; exact ho1), hc.out]
      have HC := Lib.hid hc1
      clear hc1 hc
      by_cases hl : o * b ≤ 1000000000000
      · go_wp2
        go_round
        case rel => exact ⟨i + 1, o * b, by go_num, rfl, hp0, hl, show _ ≤ _ by omega, by omega, HC⟩
        case measure => simp only [intOf]; omega
      · go_wp2
        go_ret
        have hst := capTo_stop (b := b) (l := LIM) (k := i + 1) (by rw [HC.out]; unfold LIM; omega) m.toNat (by have := hi.out; omega)
        refine ⟨ret_int ?_, rfl⟩
        rw [powS_no]
        rw [hst, HC.out]
        unfold LIM
        omega
    · go_wp2
      go_ret
      have e : i = m.toNat := by have := hi.out; omega
      refine ⟨ret_int ?_, rfl⟩
      rw [← e, powS_yes (by rw [hc.out]; unfold LIM; exact ho1), hc.out]

/-- There is a field of the size q, and not too many vectors of the length n. -/
def isSpaceB (q n : Int) : Bool := isField q && (inB n 1 32 && decide (capTo q LIM n.toNat ≤ LIM))

set_option maxHeartbeats 400000 in
theorem l19Space_any (q n : Int) (w : World) :
    Calls Try.prog 57 #[.int .i64 q, .int .i64 n] w fun e w' => e = .returned (.bool (isSpaceB q n)) ∧ w = w' := by
  generalize hR : isSpaceB q n = R
  have HR := Lib.hid hR
  clear hR
  go_enter Try.func57, Try.ntmps57
  go_wp2_with fail
  refine (l19Field_any q w).mono ?_
  rintro e w1 ⟨rfl, rfl⟩
  rcases hf : isField q with _ | _
  · have HF := Lib.hid hf
    clear hf
    go_wp2
    go_ret
    exact ⟨ret_bool (by rw [← HR.out, isSpaceB, HF.out]; rfl), rfl⟩
  · obtain ⟨hq2, hq64, _⟩ := isField_size hf
    have HF := Lib.hid hf
    clear hf
    go_wp2_with fail
    refine (l00In_any n 1 32 w).mono ?_
    rintro e w1 ⟨rfl, rfl⟩
    rcases hk : inB n 1 32 with _ | _
    · have HK := Lib.hid hk
      clear hk
      go_wp2
      go_ret
      exact ⟨ret_bool (by rw [← HR.out, isSpaceB, HF.out, HK.out]; rfl), rfl⟩
    · obtain ⟨hk1, hk8⟩ := inB_true.1 hk
      have HK := Lib.hid hk
      clear hk
      go_wp2_with fail
      refine (l19Power_any q n w (by omega) (by omega) (by omega)).mono ?_
      rintro e w1 ⟨rfl, rfl⟩
      have hpos := capTo_pos (b := q) (l := LIM) (by omega) n.toNat
      by_cases hl : capTo q LIM n.toNat ≤ LIM
      · rw [powS_yes hl]
        have hr : R = true := by rw [← HR.out, isSpaceB, HF.out, HK.out]; simp [hl]
        generalize capTo q LIM n.toNat = C at hpos hl
        have HRR := Lib.hid hr
        clear hr hl
        go_wp2
        go_ret
        exact ⟨ret_bool (by rw [HRR.out]; simp; omega), rfl⟩
      · rw [powS_no hl]
        have hr : R = false := by rw [← HR.out, isSpaceB, HF.out, HK.out]; simp [hl]
        have HRR := Lib.hid hr
        clear hr hl hpos
        go_wp2
        go_ret
        exact ⟨ret_bool (by rw [HRR.out]), rfl⟩

set_option maxHeartbeats 400000 in
theorem isSpace_any (q n : Int) (w : World) :
    Calls Try.prog 60 #[.int .i64 q, .int .i64 n] w fun e w' => e = .returned (.bool (isSpaceB q n)) ∧ Below w.heap.size w w' := by
  generalize hR : isSpaceB q n = R
  have HR := Lib.hid hR
  clear hR
  go_enter Try.func60, Try.ntmps60
  go_wp2_with fail
  refine (MakeField_any q w).mono ?_
  rintro e w1 ⟨v1, rfl, o1, b1⟩
  obtain ⟨a1, c1, rfl, _, _⟩ := o1.form
  have s1 := b1.size
  have hb := b1.alloc s1 (.cells #[.int .i64 (mkF q).1, .int .i64 (mkF q).2.1, .slice a1 (mkF q).2.2.1.length c1] 41)
  rcases hf : isField q with _ | _
  · rw [mkF_bad hf]
    have HF := Lib.hid hf
    clear hf
    go_wp2
    go_ret
    exact ⟨ret_bool (by rw [← HR.out, isSpaceB, HF.out]; rfl), hb⟩
  · rw [mkF_ok hf]
    obtain ⟨hq2, hq64, _⟩ := isField_size hf
    have HF := Lib.hid hf
    clear hf
    go_wp2_with fail
    refine (within_any n 1 32 _).mono ?_
    rintro e w2 ⟨rfl, rfl⟩
    rcases hk : inB n 1 32 with _ | _
    · have HK := Lib.hid hk
      clear hk
      go_wp2
      go_ret
      exact ⟨ret_bool (by rw [← HR.out, isSpaceB, HF.out, HK.out]; rfl), hb⟩
    · obtain ⟨hk1, hk8⟩ := inB_true.1 hk
      have HK := Lib.hid hk
      clear hk
      go_wp2_with fail
      refine (powerUpTo_any q n 1000000000000 _ (by omega) (by omega) (by omega) (by omega) (by omega)).mono ?_
      rintro e w2 ⟨rfl, rfl⟩
      have hr : R = decide (capTo q LIM n.toNat ≤ LIM) := by rw [← HR.out, isSpaceB, HF.out, HK.out]; rfl
      have HRR := Lib.hid hr
      clear hr
      by_cases hl : capTo q 1000000000000 n.toNat ≤ 1000000000000
      · go_wp2
        go_ret
        exact ⟨ret_bool (by rw [HRR.out]; unfold LIM; simp [hl]), hb⟩
      · go_wp2
        go_ret
        exact ⟨ret_bool (by rw [HRR.out]; unfold LIM; simp), hb⟩

theorem isSpaceB_true {q n : Int} (h : isSpaceB q n = true) : isField q = true ∧ 1 ≤ n ∧ n ≤ 32 ∧ capTo q LIM n.toNat ≤ LIM := by
  simp only [isSpaceB, Bool.and_eq_true, decide_eq_true_eq] at h
  obtain ⟨h1, h2, h3⟩ := h
  obtain ⟨h4, h5⟩ := inB_true.1 h2
  exact ⟨h1, h4, h5, h3⟩

end Go.Proofs.Ytkbppgpegljcoaa
