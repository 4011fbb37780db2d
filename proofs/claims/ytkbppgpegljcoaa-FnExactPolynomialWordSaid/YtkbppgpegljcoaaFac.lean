/-
  Walks of FactorsOf, PrimePower (the program's) and l03Split, l19Field (the reference's): prime powers.
-/
import Derived.Test.YtkbppgpegljcoaaNum
namespace Go.Proofs.Ytkbppgpegljcoaa
open Go.RowKit

/-- Divides n by p as long as it goes. -/
def strip (p : Nat) : Nat → Nat → List Int → Nat × List Int
  | 0, n, acc => (n, acc)
  | f + 1, n, acc => if n % p = 0 then strip p f (n / p) (acc ++ [(p : Int)]) else (n, acc)
def facTo : Nat → Nat → Nat → List Int → List Int
  | 0, _, n, acc => if 1 < n then acc ++ [(n : Int)] else acc
  | f + 1, p, n, acc => if p * p ≤ n then facTo f (p + 1) (strip p n n acc).1 (strip p n n acc).2 else if 1 < n then acc ++ [(n : Int)] else acc
def factors (n : Nat) : List Int := facTo n 2 n []
theorem strip_go {p f n : Nat} {acc : List Int} (h : n % p = 0) : strip p (f + 1) n acc = strip p f (n / p) (acc ++ [(p : Int)]) := by rw [strip, if_pos h]
theorem strip_stop {p f n : Nat} {acc : List Int} (h : ¬ n % p = 0) : strip p f n acc = (n, acc) := by
  cases f with
  | zero => rfl
  | succ f => rw [strip, if_neg h]
theorem facTo_go {f p n : Nat} {acc : List Int} (h : p * p ≤ n) : facTo (f + 1) p n acc = facTo f (p + 1) (strip p n n acc).1 (strip p n n acc).2 := by rw [facTo, if_pos h]
theorem facTo_stop {f p n : Nat} {acc : List Int} (h : ¬ p * p ≤ n) : facTo f p n acc = if 1 < n then acc ++ [(n : Int)] else acc := by
  cases f with
  | zero => rfl
  | succ f => rw [facTo, if_neg h]

theorem div_lt {n p : Nat} (hn : 1 ≤ n) (hp : 2 ≤ p) : n / p < n := Nat.div_lt_self (by omega) hp
theorem div_pos' {n p : Nat} (hn : 1 ≤ n) (hp : 2 ≤ p) (h : n % p = 0) : 1 ≤ n / p := by
  have := Nat.div_add_mod n p
  rcases Nat.eq_zero_or_pos (n / p) with h0 | h0
  · rw [h0, h] at this; omega
  · exact h0

set_option maxHeartbeats 800000 in
theorem FactorsOf_in (N : Nat) (w : World) (h1 : 1 ≤ N) (h2 : N ≤ 1000000) :
    Calls Try.prog 159 #[.int .i64 N] w fun e w' => ∃ v, e = .returned v ∧ Own w' w.heap.size v (factors N) ∧ Below w.heap.size w w' := by
  have hin : inB N 1 1000000 = true := inB_yes (by omega) (by omega)
  have hc := within_any N 1 1000000 w
  rw [hin] at hc
  have HC := hide hc
  clear hc hin
  go_enter Try.func159, Try.ntmps159
  go_wp2_with fail
  refine (unhide HC).mono ?_
  rintro e w1 ⟨rfl, rfl⟩
  go_wp2_with fail
  go_loopw [0, 3, 4] (fun nv v pv wr => ∃ (p n f : Nat) (acc : List Int), nv = .int .i64 n ∧ pv = .int .i64 p ∧ 1 ≤ n ∧ 2 ≤ p ∧ n ≤ 1000000 ∧ p ≤ 1001 ∧ acc.length + n ≤ 1000000 ∧ n < p + f ∧ Hid (facTo f p n acc = factors N) ∧ Own wr w.heap.size v acc ∧ Below w.heap.size w wr) (fun nv _ pv _ => (intOf nv - intOf pv).toNat)
  case atStart => exact ⟨2, N, N, [], rfl, rfl, h1, by omega, h2, by omega, by simpa using h2, by omega, rfl, Own.nil _ _, Below.refl _ _⟩
  case round =>
    obtain ⟨p, n, f, acc, rfl, rfl, hn1, hp2, hn2, hp3, hal, hf, hF, ho, hb⟩ := hrel
    have hpp0 : (0 : Int) ≤ (p : Int) * (p : Int) := Int.mul_nonneg (by omega) (by omega)
    by_cases hpp : p * p ≤ n
    · have hppi : (p : Int) * (p : Int) ≤ n := by exact_mod_cast hpp
      have hpn : p < n := by
        have := Nat.mul_le_mul_left p hp2
        omega
      have hp1000 : p ≤ 1000 := by
        rcases Nat.lt_or_ge 1000 p with h | h
        · have := Nat.mul_le_mul (show 1001 ≤ p by omega) (show 1001 ≤ p by omega)
          omega
        · exact h
      obtain ⟨f, rfl⟩ : ∃ g, f = g + 1 := ⟨f - 1, by omega⟩
      have HF : Hid (facTo f (p + 1) (strip p n n acc).1 (strip p n n acc).2 = factors N) := by
        have := hF.out
        rwa [facTo_go hpp] at this
      clear hpp hF
      go_wp2_with fail
      go_loopw [0, 3] (fun nv v wr => ∃ (m g : Nat) (ac : List Int), nv = .int .i64 m ∧ 1 ≤ m ∧ m ≤ n ∧ m ≤ g ∧ ac.length + m ≤ 1000000 ∧ Hid (strip p g m ac = strip p n n acc) ∧ Own wr w.heap.size v ac ∧ Below w.heap.size w wr) (fun nv _ _ => (intOf nv).toNat)
      case atStart => exact ⟨n, n, acc, rfl, hn1, Nat.le_refl _, Nat.le_refl _, hal, rfl, ho, hb⟩
      case round =>
        obtain ⟨m, g, ac, rfl, hm1, hmn, hmg, hal2, hS, ho2, hb2⟩ := hrel
        have hsz := hb2.size
        by_cases hd : m % p = 0
        · have hdi : ((m : Int) % (p : Int) == 0) = true := by
            rw [beq_iff_eq]; exact_mod_cast hd
          obtain ⟨g, rfl⟩ : ∃ g', g = g' + 1 := ⟨g - 1, by omega⟩
          have d1 := div_lt hm1 hp2
          have d2 := div_pos' hm1 hp2 hd
          have HS : Hid (strip p g (m / p) (ac ++ [(p : Int)]) = strip p n n acc) := by
            have := hS.out
            rwa [strip_go hd] at this
          have hq0 : (0 : Int) ≤ (m : Int) / (p : Int) := Int.ediv_nonneg (by omega) (by omega)
          have hq1 : (m : Int) / (p : Int) ≤ m := Int.ediv_le_self _ (by omega)
          have HD1 := Lib.hid d1
          have HD2 := Lib.hid d2
          clear hd hS ho d1 d2
          go_wp2_with (at_builtin; refine wpList_append_ints rfl (.tmp 19) (.tmp 21) rfl w.heap.size u3 ac [(p : Int)] rfl (ho2.alloc _) _ 1 1 rfl rfl (Rd.one wr (p : Int) _) (by simp; omega) (by simp; omega) ?_; intro v1 w1 hown1 hg1 _)
          go_roundw
          case rel =>
            have e1 := HD1.out
            have e2 := HD2.out
            exact ⟨m / p, g, ac ++ [(p : Int)], by simp, e2, by omega, by omega, by simp; omega, HS, hown1, Below.step (hb2.alloc hsz _) hg1 (ho2.alloc _) (Nat.le_refl _) (by simp; omega)⟩
          case measure =>
            have e1 := HD1.out
            simp only [intOf]
            have : ((m : Int) / (p : Int)) = ((m / p : Nat) : Int) := by simp
            omega
        · have hdi : ((m : Int) % (p : Int) == 0) = false := by
            rw [beq_eq_false_iff_ne]; intro h; exact hd (by exact_mod_cast h)
          have HS := hS.out
          rw [strip_stop hd] at HS
          have HS := Lib.hid HS
          clear hd hS ho
          go_wp2
          go_roundw
          case rel =>
            have e := HS.out
            have h2 := HF.out
            rw [← e] at h2
            exact ⟨p + 1, m, f, ac, rfl, by go_num, hm1, by omega, by omega, by omega, hal2, by omega, h2, ho2, hb2⟩
          case measure => simp [intOf]; omega
    · have hppi : ¬ (p : Int) * (p : Int) ≤ n := by
        intro h; exact hpp (by exact_mod_cast h)
      have hp2' : (p : Int) * (p : Int) ≤ 1002001 := by
        have := Int.mul_le_mul (show (p : Int) ≤ 1001 by omega) (show (p : Int) ≤ 1001 by omega) (by omega) (by omega)
        omega
      have hsz := hb.size
      have HF := hF.out
      rw [facTo_stop hpp] at HF
      by_cases h1n : 1 < n
      · rw [if_pos h1n] at HF
        have HF := Lib.hid HF
        clear hpp hF
        go_wp2_with (at_builtin; refine wpList_append_ints rfl (.tmp 28) (.tmp 30) rfl w.heap.size u3 acc [(n : Int)] rfl (ho.alloc _) _ 1 1 rfl rfl (Rd.one wr (n : Int) _) (by simp; omega) (by simp; omega) ?_; intro v1 w1 hown1 hg1 _)
        go_ret
        exact ⟨_, rfl, by rw [← HF.out]; exact hown1, Below.step (hb.alloc hsz _) hg1 (ho.alloc _) (Nat.le_refl _) (by simp; omega)⟩
      · rw [if_neg h1n] at HF
        have HF := Lib.hid HF
        clear hpp hF
        go_wp2
        go_ret
        exact ⟨_, rfl, by rw [← HF.out]; exact ho, hb⟩

theorem FactorsOf_out (N : Int) (w : World) (h : inB N 1 1000000 = false) :
    Calls Try.prog 159 #[.int .i64 N] w fun e w' => e = .returned (.slice none 0 0) ∧ w = w' := by
  have hc := within_any N 1 1000000 w
  rw [h] at hc
  have HC := hide hc
  clear hc h
  go_enter Try.func159, Try.ntmps159
  go_wp2_with fail
  refine (unhide HC).mono ?_
  rintro e w1 ⟨rfl, rfl⟩
  go_wp2
  go_ret
  exact ⟨rfl, rfl⟩

/-- The factors of whatever number; none where it is out of range. -/
def facs (N : Int) : List Int := if inB N 1 1000000 then factors N.toNat else []
theorem FactorsOf_any (N : Int) (w : World) :
    Calls Try.prog 159 #[.int .i64 N] w fun e w' => ∃ v, e = .returned v ∧ Own w' w.heap.size v (facs N) ∧ Below w.heap.size w w' := by
  by_cases h : inB N 1 1000000 = true
  · have hb := inB_true.1 h
    obtain ⟨n, rfl⟩ := Int.eq_ofNat_of_zero_le (show 0 ≤ N by omega)
    rw [facs, if_pos h, Int.toNat_natCast]
    exact FactorsOf_in n w (by omega) (by omega)
  · rw [Bool.not_eq_true] at h
    refine (FactorsOf_out N w h).mono ?_
    rintro e w' ⟨rfl, rfl⟩
    rw [facs, if_neg (by simp [h])]
    exact ⟨_, rfl, Own.nil _ _, Below.refl _ _⟩
end Go.Proofs.Ytkbppgpegljcoaa
