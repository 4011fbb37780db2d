/-
  Walks of size, PrimePower (the program's) and l03Split, l19Field (the reference's).
-/
import Derived.Test.YtkbppgpegljcoaaFac
namespace Go.Proofs.Ytkbppgpegljcoaa
open Go.RowKit

theorem size_any (a : Option Addr) (n c : Nat) (w : World) : Calls Try.prog 77 #[.slice a n c] w fun e w' => e = .returned (.int .i64 n) ∧ w = w' := by
  go_enter Try.func77, Try.ntmps77
  go_wp2
  go_ret
  exact ⟨rfl, rfl⟩

/-- The prime and the exponent, off the list of all factors. -/
def ppOf (L : List Int) : Int × Int := if L ≠ [] ∧ ∀ x ∈ L, x = nth L 0 then (nth L 0, L.length) else (0, 0)
def ppI (q : Int) : Int × Int := ppOf (facs q)
theorem ppOf_no {L : List Int} {k : Nat} (hk : k < L.length) (h : (nth L k != nth L 0) = true) : ppOf L = (0, 0) := by
  rw [ppOf, if_neg]
  rintro ⟨_, h2⟩
  simp [h2 _ (nth_mem hk)] at h
theorem ppOf_yes {L : List Int} (h0 : 0 < L.length) (h : ∀ j, j < L.length → nth L j = nth L 0) : ppOf L = (nth L 0, (L.length : Int)) := by
  rw [ppOf, if_pos]
  refine ⟨fun e => by simp [e] at h0, fun x hx => ?_⟩
  obtain ⟨j, hj, rfl⟩ := List.getElem_of_mem hx
  rw [← nth_lt hj]
  exact h j hj

set_option maxHeartbeats 400000 in
theorem PrimePower_any (q : Int) (w : World) :
    Calls Try.prog 125 #[.int .i64 q] w fun e w' => e = .returned (.tuple #[.int .i64 (ppI q).1, .int .i64 (ppI q).2]) ∧ Below w.heap.size w w' := by
  unfold ppI
  generalize hL : facs q = L
  have HL := Lib.hid hL
  clear hL
  go_enter Try.func125, Try.ntmps125
  go_wp2_with fail
  refine (FactorsOf_any q w).mono ?_
  rintro e w1 ⟨v, rfl, o, b⟩
  rw [HL.out] at o
  obtain ⟨a, c, rfl, r, _⟩ := o.form
  have hl := r.len
  clear o
  go_wp2_with fail
  go_loop [11] (fun i => ∃ k : Nat, i = .int .i64 k ∧ k ≤ L.length ∧ Hid (∀ j, j < k → nth L j = nth L 0)) (fun i => L.length - (intOf i).toNat)
  case atStart => exact ⟨0, rfl, Nat.zero_le _, fun j hj => by omega⟩
  case round =>
    obtain ⟨k, rfl, hk, hq⟩ := hrel
    by_cases hkl : k < L.length
    · obtain ⟨b1, o1, rfl, _, hc⟩ := r.at_ (by omega)
      have h1 := hc k hkl
      have h0 := hc 0 (by omega)
      rw [Nat.add_zero] at h0
      clear hc
      go_wp2
      · have hne : (nth L k != nth L 0) = true := by assumption
        have hz := ppOf_no hkl hne
        go_ret2
        exact ⟨ret_ints2 (by rw [hz]) (by rw [hz]), b⟩
      · have hne : (nth L k != nth L 0) = false := by assumption
        go_round
        case rel =>
          refine ⟨k + 1, by go_num, by omega, fun j hj => ?_⟩
          rcases Nat.lt_succ_iff_lt_or_eq.1 hj with h | rfl
          · exact hq.out j h
          · simpa using hne
        case measure => simp [intOf]; omega
    · by_cases h0 : 0 < L.length
      · have hz := ppOf_yes h0 (fun j hj => hq.out j (by omega))
        have HZ := Lib.hid hz
        clear hz
        obtain ⟨b1, o1, rfl, _, hc⟩ := r.at_ h0
        have h00 := hc 0 h0
        rw [Nat.add_zero] at h00
        have hl0 : ((L.length : Int) == 0) = false := by rw [beq_eq_false_iff_ne]; omega
        have hl1 : (0 : Int) < L.length := by omega
        clear hc hq
        go_wp2_with fail
        go_quiet ((go_at_call 77; exact Calls.quiet_of_same ((size_any _ _ _ _).mono fun _ _ h => ⟨h.1, h.2.symm⟩)))
        go_wp2
        go_ret2
        exact ⟨ret_ints2 (by rw [HZ.out]) (by rw [HZ.out]), b.trans (Below.mono (Qt.below ⟨_, rfl⟩ _) b.size)⟩
      · obtain rfl : L = [] := List.eq_nil_of_length_eq_zero (by omega)
        clear hq
        go_wp2
        go_ret2
        exact ⟨rfl, b⟩

/-! ### The reference's way -/
def minTo (q : Nat) : Nat → Nat → Nat
  | 0, p => p
  | f + 1, p => if q % p = 0 then p else minTo q f (p + 1)
def spl (p : Nat) : Nat → Nat → Nat → Int × Int
  | 0, _, k => ((p : Int), (k : Int))
  | f + 1, n, k => if 1 < n then (if n % p = 0 then spl p f (n / p) (k + 1) else (0, 0)) else ((p : Int), (k : Int))
def splitN (q : Nat) : Int × Int := spl (minTo q q 2) q q 0
def split (q : Int) : Int × Int := if inB q 2 64 then splitN q.toNat else (0, 0)
theorem minTo_go {q p f : Nat} (h : ¬ q % p = 0) : minTo q (f + 1) p = minTo q f (p + 1) := by rw [minTo, if_neg h]
theorem minTo_stop {q p f : Nat} (h : q % p = 0) : minTo q f p = p := by
  cases f with
  | zero => rfl
  | succ f => rw [minTo, if_pos h]
theorem spl_go {p f n k : Nat} (h1 : 1 < n) (h : n % p = 0) : spl p (f + 1) n k = spl p f (n / p) (k + 1) := by rw [spl, if_pos h1, if_pos h]
theorem spl_zero {p f n k : Nat} (h1 : 1 < n) (h : ¬ n % p = 0) : spl p (f + 1) n k = (0, 0) := by rw [spl, if_pos h1, if_neg h]
theorem spl_stop {p f n k : Nat} (h1 : ¬ 1 < n) : spl p f n k = ((p : Int), (k : Int)) := by
  cases f with
  | zero => rfl
  | succ f => rw [spl, if_neg h1]

set_option maxHeartbeats 800000 in
theorem l03Split_in (q : Nat) (w : World) (h1 : 2 ≤ q) (h2 : q ≤ 64) :
    Calls Try.prog 122 #[.int .i64 q] w fun e w' => e = .returned (.tuple #[.int .i64 (splitN q).1, .int .i64 (splitN q).2]) ∧ w = w' := by
  have hin : inB q 2 64 = true := inB_yes (by omega) (by omega)
  have hc := l00In_any q 2 64 w
  rw [hin] at hc
  have HC := hide hc
  clear hc hin
  unfold splitN
  generalize hm : minTo q q 2 = M
  have HM := Lib.hid hm
  clear hm
  go_enter Try.func122, Try.ntmps122
  go_wp2_with fail
  refine (unhide HC).mono ?_
  rintro e w1 ⟨rfl, rfl⟩
  go_wp2_with fail
  go_loop [4] (fun pv => ∃ (p f : Nat), pv = .int .i64 p ∧ 2 ≤ p ∧ p ≤ q ∧ q ≤ p + f ∧ Hid (minTo q f p = M)) (fun pv => q - (intOf pv).toNat)
  case atStart => exact ⟨2, q, rfl, by omega, h1, by omega, HM.out⟩
  case round =>
    obtain ⟨p, f, rfl, hp2, hpq, hf, hF⟩ := hrel
    by_cases hd : q % p = 0
    · have hdi : ((q : Int) % (p : Int) != 0) = false := by
        rw [bne_eq_false_iff_eq]; exact_mod_cast hd
      have HP : Hid (p = M) := by
        have := hF.out
        rwa [minTo_stop hd] at this
      clear hF hd HM
      go_wp2_with fail
      go_loop [5, 6] (fun kv nv => ∃ (k n f : Nat), kv = .int .i64 k ∧ nv = .int .i64 n ∧ k ≤ 64 ∧ 1 ≤ n ∧ n ≤ 64 ∧ n ≤ f ∧ k + n ≤ 64 ∧ Hid (spl p f n k = spl p q q 0)) (fun _ nv => (intOf nv).toNat)
      case atStart => exact ⟨0, q, q, rfl, rfl, by omega, by omega, h2, by omega, by omega, rfl⟩
      case round =>
        obtain ⟨k, n, g, rfl, rfl, hk, hn1, hn2, hg, hkn, hS⟩ := hrel
        by_cases hn : 1 < n
        · obtain ⟨g, rfl⟩ : ∃ g', g = g' + 1 := ⟨g - 1, by omega⟩
          by_cases hd2 : n % p = 0
          · have hdi2 : ((n : Int) % (p : Int) != 0) = false := by
              rw [bne_eq_false_iff_eq]; exact_mod_cast hd2
            have hq0 : (0 : Int) ≤ (n : Int) / (p : Int) := Int.ediv_nonneg (by omega) (by omega)
            have hq1 : (n : Int) / (p : Int) ≤ n := Int.ediv_le_self _ (by omega)
            have d1 := div_lt hn1 hp2
            have d2 := div_pos' hn1 hp2 hd2
            have HD1 := Lib.hid d1
            have HD2 := Lib.hid d2
            have HS : Hid (spl p g (n / p) (k + 1) = spl p q q 0) := by
              have := hS.out
              rwa [spl_go hn hd2] at this
            clear hS hd2 d1 d2
            go_wp2
            go_round
            case rel =>
              have e1 := HD1.out
              have e2 := HD2.out
              exact ⟨k + 1, n / p, g, by go_num, by simp, by omega, e2, by omega, by omega, by omega, HS⟩
            case measure =>
              have e1 := HD1.out
              simp only [intOf]
              have : ((n : Int) / (p : Int)) = ((n / p : Nat) : Int) := by simp
              omega
          · have hdi2 : ((n : Int) % (p : Int) != 0) = true := by
              rw [bne_iff_ne]; intro h; exact hd2 (by exact_mod_cast h)
            have HS : Hid (((0 : Int), (0 : Int)) = spl p q q 0) := by
              have := hS.out
              rwa [spl_zero hn hd2] at this
            clear hS hd2
            go_wp2
            go_ret2
            have hP := HP.out
            have hS := HS.out
            refine ⟨ret_ints2 ?_ ?_, rfl⟩
            · rw [← hP, ← hS]
            · rw [← hP, ← hS]
        · have HS : Hid (((p : Int), (k : Int)) = spl p q q 0) := by
            have := hS.out
            rwa [spl_stop hn] at this
          clear hS
          go_wp2
          go_ret2
          have hP := HP.out
          have hS := HS.out
          refine ⟨ret_ints2 ?_ ?_, rfl⟩
          · rw [← hP, ← hS]
          · rw [← hP, ← hS]
    · have hdi : ((q : Int) % (p : Int) != 0) = true := by
        rw [bne_iff_ne]; intro h; exact hd (by exact_mod_cast h)
      have hne : p ≠ q := by rintro rfl; simp at hd
      have HF : Hid (minTo q (f - 1) (p + 1) = M) := by
        have := hF.out
        rwa [show f = (f - 1) + 1 by omega, minTo_go hd] at this
      clear hF hd HM
      go_wp2
      go_round
      case rel => exact ⟨p + 1, f - 1, by go_num, by omega, by omega, by omega, HF⟩
      case measure => simp [intOf]; omega

theorem l03Split_any (q : Int) (w : World) :
    Calls Try.prog 122 #[.int .i64 q] w fun e w' => e = .returned (.tuple #[.int .i64 (split q).1, .int .i64 (split q).2]) ∧ w = w' := by
  by_cases h : inB q 2 64 = true
  · have hb := inB_true.1 h
    obtain ⟨n, rfl⟩ := Int.eq_ofNat_of_zero_le (show 0 ≤ q by omega)
    rw [split, if_pos h, Int.toNat_natCast]
    exact l03Split_in n w (by omega) (by omega)
  · rw [Bool.not_eq_true] at h
    rw [split, if_neg (by simp [h])]
    have hc := l00In_any q 2 64 w
    rw [h] at hc
    have HC := hide hc
    clear hc h
    go_enter Try.func122, Try.ntmps122
    go_wp2_with fail
    refine (unhide HC).mono ?_
    rintro e w1 ⟨rfl, rfl⟩
    go_wp2
    go_ret2
    exact ⟨rfl, rfl⟩
end Go.Proofs.Ytkbppgpegljcoaa
