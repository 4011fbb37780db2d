/-
  Irreducible polynomials: the plain test; walk of irreducible (the program's).
-/
import Derived.Test.YtkbppgpegljcoaaRem
namespace Go.Proofs.Ytkbppgpegljcoaa
open Go.RowKit

/-- No monic polynomial of the degree d divides poly. -/
def irrD (poly : List Int) (p : Int) (d : Nat) : Bool := (List.range (p ^ d).toNat).all (fun (n : Nat) => !isZ (prem p (dig n p d ++ [1]) poly))
def irr (poly : List Int) (p : Int) : Bool := (List.range ((poly.length - 1) / 2)).all (fun e => irrD poly p (e + 1))
theorem irrD_no {poly : List Int} {p : Int} {d n : Nat} (hn : (n : Int) < p ^ d) (h : isZ (prem p (dig n p d ++ [1]) poly) = true) : irrD poly p d = false := by
  rw [irrD, List.all_eq_false]
  exact ⟨n, List.mem_range.2 (by omega), by simp [h]⟩
theorem irrD_yes {poly : List Int} {p : Int} {d : Nat} (h : ∀ n : Nat, (n : Int) < p ^ d → isZ (prem p (dig n p d ++ [1]) poly) = false) : irrD poly p d = true := by
  rw [irrD, List.all_eq_true]
  intro n hn
  rw [List.mem_range] at hn
  simp [h n (by omega)]
theorem irr_no {poly : List Int} {p : Int} {d : Nat} (h1 : 1 ≤ d) (h2 : 2 * d ≤ poly.length - 1) (h : irrD poly p d = false) : irr poly p = false := by
  rw [irr, List.all_eq_false]
  exact ⟨d - 1, List.mem_range.2 (by omega), by rw [show d - 1 + 1 = d by omega, h]; simp⟩
theorem irr_yes {poly : List Int} {p : Int} (h : ∀ d, 1 ≤ d → 2 * d ≤ poly.length - 1 → irrD poly p d = true) : irr poly p = true := by
  rw [irr, List.all_eq_true]
  intro e he
  rw [List.mem_range] at he
  exact h (e + 1) (by omega) (by omega)

theorem Rd.lit1 (w : World) (t : TypeId) : Rd (w.alloc (.cells #[.int .i64 1] t)) (some ⟨w.heap.size, 0, none⟩) [1] := Rd.one w 1 t
theorem InR.app {p : Int} {xs : List Int} (h : InR p xs) (hp : 2 ≤ p) : InR p (xs ++ [1]) := by
  intro x hx
  rcases List.mem_append.1 hx with h1 | h1
  · exact h x h1
  · have : x = 1 := by simpa using h1
    omega
theorem pow_mono {p : Int} (hp : 1 ≤ p) {a b : Nat} (h : a ≤ b) : p ^ a ≤ p ^ b := by
  induction b with
  | zero => obtain rfl : a = 0 := by omega
            exact Int.le_refl _
  | succ b ih =>
    by_cases e : a = b + 1
    · subst e; exact Int.le_refl _
    · have h1 := ih (by omega)
      have h0 : 0 ≤ p ^ b := Int.pow_nonneg (by omega)
      have := Int.mul_le_mul_of_nonneg_left hp h0
      rw [Int.pow_succ]
      omega

theorem pow_base {a b : Int} (h0 : 0 ≤ a) (h : a ≤ b) (k : Nat) : a ^ k ≤ b ^ k := by
  induction k with
  | zero => simp
  | succ k ih =>
    rw [Int.pow_succ, Int.pow_succ]
    exact Int.mul_le_mul ih h h0 (Int.pow_nonneg (by omega))

set_option maxHeartbeats 1600000 in
theorem irreducible_any (a : Option Addr) (c : Nat) (poly : List Int) (p : Int) (w : World) (hx : Rd w a poly) (hp : 2 ≤ p) (hp2 : p ≤ 64) (hr : InR p poly) (hn : 2 ≤ poly.length) (hq : p ^ (poly.length - 1) ≤ 64) :
    Calls Try.prog 126 #[.slice a poly.length c, .int .i64 p] w fun e w' => e = .returned (.bool (irr poly p)) ∧ Below w.heap.size w w' := by
  have hxl := hx.len
  obtain ⟨D, hD⟩ : ∃ D : Nat, D = poly.length - 1 := ⟨_, rfl⟩
  have HD := Lib.hid hD
  have hD1 : 1 ≤ D := by omega
  have hpl : (poly.length : Int) = D + 1 := by omega
  have HPL := Lib.hid hpl
  clear hD hpl
  have hD6 : D ≤ 6 := by
    rcases Nat.lt_or_ge 6 D with h | h
    · have h1 := pow_mono (p := p) (by omega) (show 7 ≤ poly.length - 1 by have := HD.out; omega)
      have h2 : (2 : Int) ^ 7 ≤ p ^ 7 := pow_base (by omega) hp 7
      have h3 : (2 : Int) ^ 7 = 128 := rfl
      omega
    · exact h
  go_enter Try.func126, Try.ntmps126
  go_wp2_with fail
  refine (size_any a poly.length c w).mono ?_
  rintro e w1 ⟨rfl, rfl⟩
  rw [HPL.out]
  go_wp2_with fail
  go_loopw [6] (fun dv wr => ∃ d : Nat, dv = .int .i64 d ∧ 1 ≤ d ∧ d ≤ 7 ∧ Below w.heap.size w wr ∧ Hid (∀ d', 1 ≤ d' → d' < d → 2 * d' ≤ poly.length - 1 → irrD poly p d' = true)) (fun dv _ => D + 1 - (intOf dv).toNat)
  case atStart => exact ⟨1, rfl, by omega, by omega, Below.refl _ _, fun d' h1 h2 => by omega⟩
  case round =>
    obtain ⟨d, rfl, hd1, hd7, hb, hall⟩ := hrel
    by_cases hgo : 2 * d ≤ D
    · have hgo2 : 2 * (d : Int) ≤ (D : Int) := by omega
      go_wp2_with fail
      have hpd : p ^ d ≤ 64 := Int.le_trans (pow_mono (by omega) (show d ≤ poly.length - 1 by have := HD.out; omega)) hq
      have hpd0 : 0 ≤ p ^ d := Int.pow_nonneg (by omega)
      have hcap := capTo_pow (l := 64) (show 1 ≤ p by omega) d hpd
      have hpw := fun W => powerUpTo_any p d 64 W (by omega) (by omega) (by omega) (by omega) (by omega)
      simp only [Int.toNat_natCast, hcap] at hpw
      obtain ⟨P, hP⟩ : ∃ P, P = p ^ d := ⟨_, rfl⟩
      rw [← hP] at hpw hpd hpd0
      have HP := Lib.hid hP
      have HPW := hide hpw
      clear hpw hcap hP
      go_loopw [7] (fun nv wr2 => ∃ n : Nat, nv = .int .i64 n ∧ n ≤ 64 ∧ Below w.heap.size w wr2 ∧ Hid (∀ n' : Nat, n' < n → isZ (prem p (dig n' p d ++ [1]) poly) = false)) (fun nv _ => P.toNat - (intOf nv).toNat)
      case atStart => exact ⟨0, rfl, by omega, hb, fun n' h => by omega⟩
      case round =>
        obtain ⟨n, rfl, hn64, hb2, hn'⟩ := hrel
        have hsz := hb2.size
        go_wp2_with fail
        refine (unhide HPW _).mono ?_
        rintro e w2 ⟨rfl, rfl⟩
        by_cases hlt : (n : Int) < P
        · go_wp2_with fail
          refine (digitsOf_any n p d _ (by omega) (by omega) (by omega) (by omega) (by omega)).mono ?_
          rintro e w3 ⟨v3, rfl, o3, b3⟩
          have hx3 := (hx.below hb2).below b3
          have hb3 := hb2.trans (b3.mono hsz)
          have hsz3 := b3.size
          go_wp2_with (at_builtin; refine wpList_append_ints rfl (.tmp 28) (.tmp 29) rfl _ v3 (dig n p d) [1] rfl (o3.alloc _) _ 1 1 rfl rfl (Rd.lit1 w3 _) (by rw [dig_len]; simp; omega) (by simp; omega) ?_; intro v4 w4 o4 hg4 _)
          have hb4 : Below wr.heap.size w3 w4 := Below.step ((Below.refl _ _).alloc hsz3 _) hg4 (o3.alloc _) (Nat.le_refl _) (by simp; omega)
          have hsz4 := hb4.size
          have hb4' := hb3.trans (hb4.mono hsz)
          have hx4 := hx.below hb4'
          have HO4 : Hid (Own w4 wr.heap.size v4 (dig n p d ++ [1])) := o4
          obtain ⟨a4, c4, rfl, r4, _⟩ := o4.form
          refine (remainder_any a a4 c c4 poly (dig n p d ++ [1]) p w4 hx4 r4 (by omega) (by omega) hr (fun y hy => by have := (InR.app (dig_range (by omega) d) hp) y hy; omega) (by omega) (by simp)).mono ?_
          rintro e w5 ⟨v5, rfl, o5, b5⟩
          obtain ⟨a5, c5, rfl, r5, _⟩ := o5.form
          have hb5 := hb4'.trans (b5.mono (by omega))
          clear HO4 hx3 hx4 r4 o5 hg4 o3 o4
          go_wp2_with fail
          refine (isZero_any a5 c5 _ w5 r5).mono ?_
          rintro e w6 ⟨rfl, rfl⟩
          generalize hz : isZ (prem p (dig n p d ++ [1]) poly) = z
          have HZ := Lib.hid hz
          clear hz r5
          cases z
          · go_wp2
            go_roundw
            case rel =>
              refine ⟨n + 1, by go_num, by omega, hb5, fun n' hn2 => ?_⟩
              rcases Nat.lt_succ_iff_lt_or_eq.1 hn2 with h | rfl
              · exact hn'.out n' h
              · exact HZ.out
            case measure => simp only [intOf]; omega
          · go_wp2
            go_ret
            have e1 := HP.out
            exact ⟨ret_bool (irr_no hd1 (by have := HD.out; omega) (irrD_no (by omega) HZ.out)).symm, hb5⟩
        · go_wp2
          go_roundw
          case rel =>
            refine ⟨d + 1, by go_num, by omega, by omega, hb2, fun d' h1 h2 h3 => ?_⟩
            rcases Nat.lt_succ_iff_lt_or_eq.1 h2 with h | rfl
            · exact hall.out d' h1 h h3
            · have e1 := HP.out
              exact irrD_yes (fun m hm => hn'.out m (by omega))
          case measure => simp only [intOf]; omega
    · go_wp2
      go_ret
      exact ⟨ret_bool (irr_yes (fun d' h1 h2 => hall.out d' h1 (by have := HD.out; omega) h2)).symm, hb⟩
end Go.Proofs.Ytkbppgpegljcoaa
