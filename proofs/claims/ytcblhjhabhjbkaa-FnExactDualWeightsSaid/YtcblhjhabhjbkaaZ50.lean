/-
  Plain mathematics and walks: the numbers of the identity of MacWilliams, on both sides.
-/
import Derived.BigQuiet
import Derived.Deep.DeepMust
import Derived.Deep.Draws
import Derived.Deep.OwnRows
import Derived.Deep.QuietTactic
import Derived.Lib.Hide
import Derived.Maps.AppendAt
import Derived.Test.YtcblhjhabhjbkaaProg
import Derived.WalkKit
import Derived.WalkLawsBesides
import Derived.WalkSpells
import Derived.Test.YtcblhjhabhjbkaaZ2
import Derived.Test.YtcblhjhabhjbkaaZ32
set_option linter.unusedVariables false
set_option linter.unusedSimpArgs false
namespace Go.Proofs.Ytcblhjhabhjbkaa
open Go.RowKit

/-- One term. -/
def kX (i s : Nat) : Int := chooseV i s
def kY (n i j s : Nat) : Int := chooseV ((n - i : Nat) : Int) ((j - s : Nat) : Int)
def kT (q : Int) (n i j s : Nat) : Int := kX i s * kY n i j s * (q - 1) ^ (j - s)
def kTo (q : Int) (n i j : Nat) : Nat → Int
  | 0 => 0
  | s + 1 => kTo q n i j s + (if s % 2 = 1 then -(kT q n i j s) else kT q n i j s)
/-- The number K(i, j). -/
def kR (q : Int) (n i j : Nat) : Int := kTo q n i j (j + 1)
theorem chooseV_big {n k : Nat} (h : n < k) : chooseV n k = 0 := by
  rw [chooseV, inB_no2 (show ¬ (k : Int) ≤ n by omega)]; simp
theorem chT_le {q : Int} (hq : 2 ≤ q) {n : Nat} (hn : n ≤ 32) (k : Nat) : chooseV n k * (q - 1) ^ k ≤ q ^ n := by
  by_cases h : k ≤ n
  · exact ballT_le (by omega) hn h
  · rw [chooseV_big (by omega), Int.zero_mul]
    exact Int.pow_nonneg (by omega)
theorem ch_le {n : Nat} (hn : n ≤ 32) (k : Nat) : chooseV n k ≤ 2 ^ n := by
  have h := chT_le (q := 2) (by omega) hn k
  rw [show (2 - 1 : Int) = 1 by rfl, Int.one_pow, Int.mul_one] at h
  exact h
theorem pow_le_base {a b : Int} (ha : 0 ≤ a) (h : a ≤ b) (n : Nat) : a ^ n ≤ b ^ n := by
  induction n with
  | zero => simp
  | succ n ih =>
    rw [Int.pow_succ, Int.pow_succ]
    exact Int.mul_le_mul ih h ha (Int.pow_nonneg (by omega))
theorem k_bd {q : Int} (hq : 2 ≤ q) {n i j s : Nat} (hn : n ≤ 32) (hi : i ≤ n) (hL : q ^ n ≤ LIM) :
    0 ≤ kX i s ∧ 0 ≤ kY n i j s ∧ kX i s * kY n i j s ≤ 1000000000000 ∧ 0 ≤ kX i s * kY n i j s ∧ 0 ≤ kT q n i j s ∧ kT q n i j s ≤ 1000000000000 := by
  have hL' : q ^ n ≤ 1000000000000 := hL
  have x0 : 0 ≤ kX i s := chooseV_nonneg (by omega) s
  have y0 : 0 ≤ kY n i j s := chooseV_nonneg (n := n - i) (by omega) (j - s)
  have p0 : 0 ≤ (q - 1) ^ (j - s) := Int.pow_nonneg (by omega)
  have x1 : kX i s ≤ q ^ i := Int.le_trans (ch_le (by omega) s) (pow_le_base (by omega) hq i)
  have y1 : kY n i j s ≤ q ^ (n - i) := Int.le_trans (ch_le (n := n - i) (by omega) (j - s)) (pow_le_base (by omega) hq (n - i))
  have t1 : kY n i j s * (q - 1) ^ (j - s) ≤ q ^ (n - i) := chT_le hq (n := n - i) (by omega) (j - s)
  have e : q ^ i * q ^ (n - i) = q ^ n := by rw [← Int.pow_add]; congr 1; omega
  have q0 : 0 ≤ q ^ i := Int.pow_nonneg (by omega)
  have xy : kX i s * kY n i j s ≤ q ^ i * q ^ (n - i) := Int.mul_le_mul x1 y1 y0 q0
  have yp0 : 0 ≤ kY n i j s * (q - 1) ^ (j - s) := Int.mul_nonneg y0 p0
  have xt : kX i s * (kY n i j s * (q - 1) ^ (j - s)) ≤ q ^ i * q ^ (n - i) := Int.mul_le_mul x1 t1 yp0 q0
  rw [e] at xy xt
  refine ⟨x0, y0, by omega, Int.mul_nonneg x0 y0, ?_, ?_⟩
  · rw [kT, Int.mul_assoc]; exact Int.mul_nonneg x0 yp0
  · rw [kT, Int.mul_assoc]; omega
theorem kTo_bd {q : Int} (hq : 2 ≤ q) {n i j : Nat} (hn : n ≤ 32) (hi : i ≤ n) (hL : q ^ n ≤ LIM) (S : Nat) : -((S : Int) * 1000000000000) ≤ kTo q n i j S ∧ kTo q n i j S ≤ (S : Int) * 1000000000000 := by
  induction S with
  | zero => simp [kTo]
  | succ S ih =>
    obtain ⟨_, _, _, _, h5, h6⟩ := k_bd hq (j := j) (s := S) hn hi hL
    rw [kTo]
    split <;> omega
theorem kR_bd {q : Int} (hq : 2 ≤ q) {n i j : Nat} (hn : n ≤ 32) (hi : i ≤ n) (hj : j ≤ n) (hL : q ^ n ≤ LIM) : -33000000000000 ≤ kR q n i j ∧ kR q n i j ≤ 33000000000000 := by
  have := kTo_bd hq (j := j) hn hi hL (j + 1)
  rw [kR]
  omega

set_option maxHeartbeats 1600000 in
theorem l18Term_any (q : Int) (n i j : Nat) (w : World) (hq : 2 ≤ q) (hq64 : q ≤ 64) (hn : n ≤ 32) (hi : i ≤ n) (hj : j ≤ n) (hL : q ^ n ≤ LIM) :
    Calls Try.prog 65 #[.int .i64 n, .int .i64 q, .int .i64 i, .int .i64 j] w fun e w' => e = .returned (.int .i64 (kR q n i j)) ∧ w = w' := by
  have hni : (n : Int) - (i : Int) = ((n - i : Nat) : Int) := by omega
  have HNI := Lib.hid hni
  have HL := Lib.hid hL
  have hkr : kR q n i j = kTo q n i j (j + 1) := rfl
  have HKR := Lib.hid hkr
  clear hL hni hkr
  go_enter Try.func65, Try.ntmps65
  go_wp2
  go_loop [9, 10] (fun ov sv => ∃ (S : Nat) (o : Int), sv = .int .i64 S ∧ ov = .int .i64 o ∧ S ≤ j + 1 ∧ Hid (kTo q n i j S = o)) (fun _ sv => j + 1 - (intOf sv).toNat)
  case atStart => exact ⟨0, 0, rfl, rfl, Nat.zero_le _, rfl⟩
  case round =>
    obtain ⟨S, o, rfl, rfl, hS, hs⟩ := hrel
    by_cases hSj : S ≤ j
    · have hob := kTo_bd hq (j := j) hn hi HL.out S
      rw [hs.out] at hob
      obtain ⟨x0, y0, xy1, xy0, t0, t1⟩ := k_bd hq (j := j) (s := S) hn hi HL.out
      have hst : kTo q n i j (S + 1) = o + (if S % 2 = 1 then -(kT q n i j S) else kT q n i j S) := by rw [kTo, hs.out]
      have hjs : (j : Int) - (S : Int) = ((j - S : Nat) : Int) := by omega
      have HJS := Lib.hid hjs
      have hX := fun W => specChoose_any i S W
      have hY := fun W => specChoose_any ((n - i : Nat) : Int) ((j - S : Nat) : Int) W
      have hpp := pow_le_LIM hq HL.out (show j - S ≤ n by omega)
      have hPW := fun W => l03Power_any (q - 1) (j - S) W (by omega) (by omega) (by omega) (by unfold LIM at hpp; omega)
      change ∀ W, Calls Try.prog _ _ W (fun e w' => e = .returned (.int .i64 (kX i S)) ∧ W = w') at hX
      change ∀ W, Calls Try.prog _ _ W (fun e w' => e = .returned (.int .i64 (kY n i j S)) ∧ W = w') at hY
      rw [kT] at hst t0 t1
      generalize kX i S = X at *
      generalize kY n i j S = Y at *
      generalize (q - 1) ^ (j - S) = P at *
      have HX := hide hX
      have HY := hide hY
      have HPW := hide hPW
      clear hX hY hPW hjs hs hpp
      by_cases hp : S % 2 = 1
      · rw [if_pos hp] at hst
        have hpb : ((S : Int) % 2 == 1) = true := by rw [beq_iff_eq]; omega
        have hpb2 : (S % 2 == 1) = true := by rw [beq_iff_eq]; exact hp
        have HST := Lib.hid hst
        clear hst hp
        go_wp2_with fail
        refine (unhide HX _).mono ?_
        rintro e w1 ⟨rfl, rfl⟩
        go_wp2_with fail
        rw [HNI.out, HJS.out]
        refine (unhide HY _).mono ?_
        rintro e w1 ⟨rfl, rfl⟩
        go_wp2_with fail
        rw [HJS.out]
        refine (unhide HPW _).mono ?_
        rintro e w1 ⟨rfl, rfl⟩
        go_wp2
        go_round
        case rel => exact ⟨S + 1, o + -(X * Y * P), by go_num, rfl, by omega, HST⟩
        case measure => simp only [intOf]; omega
      · rw [if_neg hp] at hst
        have hpb : ((S : Int) % 2 == 1) = false := by rw [beq_eq_false_iff_ne]; omega
        have hpb2 : (S % 2 == 1) = false := by rw [beq_eq_false_iff_ne]; exact hp
        have HST := Lib.hid hst
        clear hst hp
        go_wp2_with fail
        refine (unhide HX _).mono ?_
        rintro e w1 ⟨rfl, rfl⟩
        go_wp2_with fail
        rw [HNI.out, HJS.out]
        refine (unhide HY _).mono ?_
        rintro e w1 ⟨rfl, rfl⟩
        go_wp2_with fail
        rw [HJS.out]
        refine (unhide HPW _).mono ?_
        rintro e w1 ⟨rfl, rfl⟩
        go_wp2
        go_round
        case rel => exact ⟨S + 1, o + X * Y * P, by go_num, rfl, by omega, HST⟩
        case measure => simp only [intOf]; omega
    · have hke : S = j + 1 := by omega
      have HE := Lib.hid hke
      clear hke
      go_wp2
      go_ret
      exact ⟨ret_int (by rw [HKR.out, ← HE.out, hs.out]), rfl⟩

def sgn (S : Nat) : Int := if S % 2 = 1 then -1 else 1
theorem sgn_succ (S : Nat) : sgn (S + 1) = -(sgn S) := by
  unfold sgn
  by_cases h : S % 2 = 1
  · rw [if_pos h, if_neg (by omega)]; rfl
  · rw [if_neg h, if_pos (by omega)]
theorem sgn_cases (S : Nat) : sgn S = 1 ∨ sgn S = -1 := by
  unfold sgn
  split
  · exact .inr rfl
  · exact .inl rfl
theorem kTo_sgn (q : Int) (n i j S : Nat) : kTo q n i j (S + 1) = kTo q n i j S + sgn S * (kX i S * kY n i j S) * (q - 1) ^ (j - S) := by
  rw [kTo, kT, sgn]
  split
  · rw [Int.neg_mul, Int.one_mul, Int.neg_mul]
  · rw [Int.one_mul]
set_option maxHeartbeats 1600000 in
theorem krawtchouk_any (q : Int) (n i j : Nat) (w : World) (hq : 2 ≤ q) (hq64 : q ≤ 64) (hn : n ≤ 32) (hi : i ≤ n) (hj : j ≤ n) (hL : q ^ n ≤ LIM) :
    Calls Try.prog 71 #[.int .i64 q, .int .i64 n, .int .i64 i, .int .i64 j] w fun e w' => e = .returned (.int .i64 (kR q n i j)) ∧ w = w' := by
  have hni : (n : Int) - (i : Int) = ((n - i : Nat) : Int) := by omega
  have HNI := Lib.hid hni
  have HL := Lib.hid hL
  have hkr : kR q n i j = kTo q n i j (j + 1) := rfl
  have HKR := Lib.hid hkr
  clear hL hni hkr
  go_enter Try.func71, Try.ntmps71
  go_wp2
  go_loop [9, 10, 11] (fun ov gv sv => ∃ (S : Nat) (o g : Int), sv = .int .i64 S ∧ ov = .int .i64 o ∧ gv = .int .i64 g ∧ S ≤ j + 1 ∧ Hid (kTo q n i j S = o) ∧ Hid (g = sgn S) ∧ -1 ≤ g ∧ g ≤ 1) (fun _ _ sv => j + 1 - (intOf sv).toNat)
  case atStart => exact ⟨0, 0, 1, rfl, rfl, rfl, Nat.zero_le _, rfl, rfl, by omega, by omega⟩
  case round =>
    obtain ⟨S, o, g, rfl, rfl, rfl, hS, hs, hg, hg0, hg1⟩ := hrel
    by_cases hSj : S ≤ j
    · have hob := kTo_bd hq (j := j) hn hi HL.out S
      rw [hs.out] at hob
      have hob2 := kTo_bd hq (j := j) hn hi HL.out (S + 1)
      obtain ⟨x0, y0, xy1, xy0, t0, t1⟩ := k_bd hq (j := j) (s := S) hn hi HL.out
      have hst := kTo_sgn q n i j S
      rw [hs.out, ← hg.out] at hst
      have hjs : (j : Int) - (S : Int) = ((j - S : Nat) : Int) := by omega
      have HJS := Lib.hid hjs
      have hX := fun W => implChoose_any i S W
      have hY := fun W => implChoose_any ((n - i : Nat) : Int) ((j - S : Nat) : Int) W
      have hpp : ∀ t, t ≤ j - S → (q - 1) ^ t ≤ LIM := fun t ht => pow_le_LIM hq HL.out (show t ≤ n by omega)
      have hp0 : ∀ t, 1 ≤ (q - 1) ^ t := fun t => by
        have h := pow_le_base (a := 1) (b := q - 1) (by omega) (by omega) t
        rwa [Int.one_pow] at h
      change ∀ W, Calls Try.prog _ _ W (fun e w' => e = .returned (.int .i64 (kX i S)) ∧ W = w') at hX
      change ∀ W, Calls Try.prog _ _ W (fun e w' => e = .returned (.int .i64 (kY n i j S)) ∧ W = w') at hY
      have hgs := sgn_cases S
      rw [← hg.out] at hgs
      have hgn : sgn (S + 1) = -g := by rw [sgn_succ, ← hg.out]
      rw [kT] at t0 t1
      generalize kX i S = X at *
      generalize kY n i j S = Y at *
      have HX := hide hX
      have HY := hide hY
      have HST := Lib.hid hst
      have HPP := hide hpp
      have HP0 := hide hp0
      have HGN := Lib.hid hgn
      have HOB := hide hob2
      have HGS := hide hgs
      have HT0 := hide t0
      have HT1 := hide t1
      clear hX hY hjs hs hst hpp hp0 hgn hob2 hg hgs t0 t1
      by_cases hc : 0 < X * Y
      · have hcb : decide ((0 : Int) < X * Y) = true := by rw [decide_eq_true_eq]; exact hc
        go_wp2_with fail
        refine (unhide HX _).mono ?_
        rintro e w1 ⟨rfl, rfl⟩
        go_wp2_with fail
        rw [HNI.out, HJS.out]
        refine (unhide HY _).mono ?_
        rintro e w1 ⟨rfl, rfl⟩
        go_wp2_with fail
        go_loop [13, 35] (fun fv tv => ∃ (t : Nat) (f : Int), tv = .int .i64 t ∧ fv = .int .i64 f ∧ t ≤ j - S ∧ Hid (f = (q - 1) ^ t) ∧ 1 ≤ f ∧ f ≤ 1000000000000) (fun _ tv => j - S - (intOf tv).toNat)
        case atStart => exact ⟨0, 1, rfl, rfl, Nat.zero_le _, show _ = _ by simp, by omega, by omega⟩
        case round =>
          obtain ⟨t, f, rfl, rfl, ht, hf, hf0, hf1⟩ := hrel
          by_cases htj : t < j - S
          · have hf2 : (q - 1) ^ (t + 1) = f * (q - 1) := by rw [Int.pow_succ, ← hf.out]
            have hf3 := unhide HPP (t + 1) (by omega)
            have hf4 := unhide HP0 (t + 1)
            rw [hf2] at hf3 hf4
            have hf5 : f * (q - 1) ≤ 1000000000000 := hf3
            have HF2 := Lib.hid hf2
            clear hf3 hf2
            go_wp2
            go_round
            case rel => exact ⟨t + 1, f * (q - 1), by go_num, rfl, by omega, HF2.out.symm, hf4, hf5⟩
            case measure => simp only [intOf]; omega
          · have hte : t = j - S := by omega
            have hst := HST.out
            have hob2 := unhide HOB
            have t1 := unhide HT1
            have t0 := unhide HT0
            rw [← hte, ← hf.out] at hst t1 t0
            rw [hst] at hob2
            have HST2 := Lib.hid hst
            have hgc : -1000000000000 ≤ g * (X * Y) ∧ g * (X * Y) ≤ 1000000000000 ∧ -1000000000000 ≤ g * (X * Y) * f ∧ g * (X * Y) * f ≤ 1000000000000 := by
              rcases unhide HGS with h | h <;> subst h
              · rw [Int.one_mul]; omega
              · rw [Int.neg_mul, Int.one_mul, Int.neg_mul]; omega
            obtain ⟨c1, c2, c3, c4⟩ := hgc
            obtain ⟨ob1, ob2⟩ := hob2
            clear hst hte
            go_wp2
            go_round
            case rel => exact ⟨S + 1, o + g * (X * Y) * f, -g, by go_num, rfl, rfl, by omega, HST2.out, HGN.out.symm, by omega, by omega⟩
            case measure => simp only [intOf]; omega
      · have hcb : decide ((0 : Int) < X * Y) = false := by rw [decide_eq_false_iff_not]; exact hc
        have hz : X * Y = 0 := by omega
        have HST2 : Hid (kTo q n i j (S + 1) = o) := Lib.hid (by rw [HST.out, hz, Int.mul_zero, Int.zero_mul, Int.add_zero])
        have HZ := Lib.hid hz
        clear hz
        go_wp2_with fail
        refine (unhide HX _).mono ?_
        rintro e w1 ⟨rfl, rfl⟩
        go_wp2_with fail
        rw [HNI.out, HJS.out]
        refine (unhide HY _).mono ?_
        rintro e w1 ⟨rfl, rfl⟩
        go_wp2
        go_round
        case rel => exact ⟨S + 1, o, -g, by go_num, rfl, rfl, by omega, HST2, HGN.out.symm, by omega, by omega⟩
        case measure => simp only [intOf]; omega
    · have hke : S = j + 1 := by omega
      have HE := Lib.hid hke
      clear hke
      go_wp2
      go_ret
      exact ⟨ret_int (by rw [HKR.out, ← HE.out, hs.out]), rfl⟩
end Go.Proofs.Ytcblhjhabhjbkaa

