/-
  Walks of both SingletonBound.
-/
import Derived.Test.YtcdfabnhaephhaaSpace
namespace Go.Proofs.Ytcdfabnhaephhaa
open Go.RowKit

/-- What SingletonBound returns. -/
def singRes (q n d : Int) : Int × Int := if isSpaceB q n && inB d 1 n then (capTo q LIM (n - d + 1).toNat, 0) else (0, 2)
set_option maxHeartbeats 400000 in
theorem specSing_any (q n d : Int) (w : World) :
    Calls Try.prog 22 #[.int .i64 q, .int .i64 n, .int .i64 d] w fun e w' => e = .returned (.tuple #[.int .i64 (singRes q n d).1, .int .i64 (singRes q n d).2]) ∧ w = w' := by
  generalize hR : singRes q n d = R
  have HR := Lib.hid hR
  clear hR
  go_enter Try.func22, Try.ntmps22
  go_wp2_with fail
  refine (l19Space_any q n w).mono ?_
  rintro e w1 ⟨rfl, rfl⟩
  rcases hf : isSpaceB q n with _ | _
  · have HF := Lib.hid hf
    clear hf
    go_wp2
    go_ret2
    have e1 : R = (0, 2) := by rw [← HR.out, singRes, HF.out]; rfl
    exact ⟨ret_ints2 (by rw [e1]) (by rw [e1]), rfl⟩
  · obtain ⟨hfq, hn1, hn32, hcap⟩ := isSpaceB_true hf
    obtain ⟨hq2, hq64, _⟩ := isField_size hfq
    have HF := Lib.hid hf
    clear hf
    go_wp2_with fail
    refine (l00In_any d 1 n w).mono ?_
    rintro e w1 ⟨rfl, rfl⟩
    rcases hk : inB d 1 n with _ | _
    · have HK := Lib.hid hk
      clear hk hcap hfq
      go_wp2
      go_ret2
      have e1 : R = (0, 2) := by rw [← HR.out, singRes, HF.out, HK.out]; rfl
      exact ⟨ret_ints2 (by rw [e1]) (by rw [e1]), rfl⟩
    · obtain ⟨hd1, hd2⟩ := inB_true.1 hk
      have e1 : R = (capTo q LIM (n - d + 1).toNat, 0) := by rw [← HR.out, singRes, HF.out, hk]; rfl
      have E1 := Lib.hid e1
      have hp := powS_yes (capTo_anti (show (n - d + 1).toNat ≤ n.toNat by omega) hcap)
      have HP := Lib.hid hp
      clear hk hcap hfq e1 hp
      go_wp2_with fail
      refine (l19Power_any q (n - d + 1) w (by omega) (by omega) (by omega)).mono ?_
      rintro e w1 ⟨rfl, rfl⟩
      go_wp2
      go_ret2
      exact ⟨ret_ints2 (by rw [E1.out]; exact HP.out) (by rw [E1.out]), rfl⟩

set_option maxHeartbeats 400000 in
theorem implSing_any (q n d : Int) (w : World) :
    Calls Try.prog 23 #[.int .i64 q, .int .i64 n, .int .i64 d] w fun e w' => e = .returned (.tuple #[.int .i64 (singRes q n d).1, .int .i64 (singRes q n d).2]) ∧ Below w.heap.size w w' := by
  generalize hR : singRes q n d = R
  have HR := Lib.hid hR
  clear hR
  go_enter Try.func23, Try.ntmps23
  go_wp2_with fail
  refine (isSpace_any q n w).mono ?_
  rintro e w1 ⟨rfl, hb⟩
  rcases hf : isSpaceB q n with _ | _
  · have HF := Lib.hid hf
    clear hf
    go_wp2
    go_ret2
    have e1 : R = (0, 2) := by rw [← HR.out, singRes, HF.out]; rfl
    exact ⟨ret_ints2 (by rw [e1]) (by rw [e1]), hb⟩
  · obtain ⟨hfq, hn1, hn32, hcap⟩ := isSpaceB_true hf
    obtain ⟨hq2, hq64, _⟩ := isField_size hfq
    have HF := Lib.hid hf
    clear hf
    go_wp2_with fail
    refine (within_any d 1 n _).mono ?_
    rintro e w2 ⟨rfl, rfl⟩
    rcases hk : inB d 1 n with _ | _
    · have HK := Lib.hid hk
      clear hk hcap hfq
      go_wp2
      go_ret2
      have e1 : R = (0, 2) := by rw [← HR.out, singRes, HF.out, HK.out]; rfl
      exact ⟨ret_ints2 (by rw [e1]) (by rw [e1]), hb⟩
    · obtain ⟨hd1, hd2⟩ := inB_true.1 hk
      have e1 : R = (capTo q LIM (n - d + 1).toNat, 0) := by rw [← HR.out, singRes, HF.out, hk]; rfl
      have E1 := Lib.hid e1
      clear hk hcap hfq e1
      go_wp2_with fail
      refine (powerUpTo_any q (n - d + 1) 1000000000000 _ (by omega) (by omega) (by omega) (by omega) (by omega)).mono ?_
      rintro e w2 ⟨rfl, rfl⟩
      go_wp2
      go_ret2
      exact ⟨ret_ints2 (by rw [E1.out]; rfl) (by rw [E1.out]), hb⟩
end Go.Proofs.Ytcdfabnhaephhaa
