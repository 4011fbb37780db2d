/-
  Texts joined.
-/
import Derived.StillTailTactics
import Derived.Test.YtgfcbmflnldicaaGreatRF1
set_option linter.unusedVariables false
set_option linter.unusedSimpArgs false
set_option maxRecDepth 100000
set_option maxHeartbeats 40000000
namespace Go.Proofs.YtgfcbmflnldicaaGreat
open Go.RowKit
def cmpI (x y : Int) : Int := if x < y then -1 else if y < x then 1 else 0
theorem isNaN_any (x : Int) (w : World) : Calls Tryz.prog 222 #[.int .i64 x] w fun e w' => e = .returned (.bool false) ∧ w = w' := by
 have h : (x != x) = false := by simp
 go_enter Tryz.func222, Tryz.ntmps222
 go_wp2
 go_ret
 exact ⟨rfl, rfl⟩
theorem compare_any (x y : Int) (w : World) : Calls Tryz.prog 184 #[.int .i64 x, .int .i64 y] w fun e w' => e = .returned (.int .i64 (cmpI x y)) ∧ w = w' := by
 have h1 := isNaN_any x w
 have h2 := isNaN_any y w
 have H1 := hide h1
 have H2 := hide h2
 clear h1 h2
 by_cases hxy : x < y
 · go_enter Tryz.func184, Tryz.ntmps184
   go_wp2_with fail
   refine (unhide H1).mono ?_
   rintro e w1 ⟨rfl, rfl⟩
   go_wp2_with fail
   refine (unhide H2).mono ?_
   rintro e w1 ⟨rfl, rfl⟩
   go_wp2
   go_ret
   exact ⟨ret_int (by simp [cmpI, hxy]), rfl⟩
 · by_cases hyx : y < x
   · go_enter Tryz.func184, Tryz.ntmps184
     go_wp2_with fail
     refine (unhide H1).mono ?_
     rintro e w1 ⟨rfl, rfl⟩
     go_wp2_with fail
     refine (unhide H2).mono ?_
     rintro e w1 ⟨rfl, rfl⟩
     go_wp2
     go_ret
     exact ⟨ret_int (by unfold cmpI; rw [if_neg (by omega), if_pos hyx]), rfl⟩
   · go_enter Tryz.func184, Tryz.ntmps184
     go_wp2_with fail
     refine (unhide H1).mono ?_
     rintro e w1 ⟨rfl, rfl⟩
     go_wp2_with fail
     refine (unhide H2).mono ?_
     rintro e w1 ⟨rfl, rfl⟩
     go_wp2
     go_ret
     exact ⟨ret_int (by unfold cmpI; rw [if_neg (by omega), if_neg (by omega)]), rfl⟩
def cmpL : List Int → List Int → Int
 | [], [] => 0
 | [], _ :: _ => -1
 | _ :: _, [] => 1
 | x :: xs, y :: ys => if cmpI x y = 0 then cmpL xs ys else cmpI x y
theorem drop_nth {xs : List Int} {k : Nat} (h : k < xs.length) : xs.drop k = nth xs k :: xs.drop (k + 1) := by
 rw [show nth xs k = xs[k] by simp [nth, h]]
 exact List.drop_eq_getElem_cons h
theorem cmpL_drop {xs ys : List Int} {k : Nat} (hx : k < xs.length) (hy : k < ys.length) : cmpL (xs.drop k) (ys.drop k) = if cmpI (nth xs k) (nth ys k) = 0 then cmpL (xs.drop (k + 1)) (ys.drop (k + 1)) else cmpI (nth xs k) (nth ys k) := by
 rw [drop_nth hx, drop_nth hy, cmpL]
theorem cmpL_long {xs ys : List Int} {k : Nat} (hx : k < xs.length) (hy : ¬ k < ys.length) : cmpL (xs.drop k) (ys.drop k) = 1 := by
 rw [drop_nth hx, show ys.drop k = [] from List.drop_eq_nil_of_le (by omega)]
 rfl
theorem cmpL_short {xs ys : List Int} {k : Nat} (hx : ¬ k < xs.length) (hy : k < ys.length) : cmpL (xs.drop k) (ys.drop k) = -1 := by
 rw [drop_nth hy, show xs.drop k = [] from List.drop_eq_nil_of_le (by omega)]
 rfl
theorem cmpL_end {xs ys : List Int} {k : Nat} (hx : ¬ k < xs.length) (hy : ¬ k < ys.length) : cmpL (xs.drop k) (ys.drop k) = 0 := by
 rw [show ys.drop k = [] from List.drop_eq_nil_of_le (by omega), show xs.drop k = [] from List.drop_eq_nil_of_le (by omega)]
 rfl
theorem cmpI_bd (x y : Int) : -1 ≤ cmpI x y ∧ cmpI x y ≤ 1 := by
 unfold cmpI
 split
 · omega
 · split <;> omega
theorem compareL_any (a b : Option Addr) (c d : Nat) (xs ys : List Int) (w : World) (hx : Rd w a xs) (hy : Rd w b ys) :
    Calls Tryz.prog 119 #[.slice a xs.length c, .slice b ys.length d] w fun e w' => e = .returned (.int .i64 (cmpL xs ys)) ∧ w = w' := by
 have hxl := hx.len
 have hyl := hy.len
 have hcm := fun k => compare_any (nth xs k) (nth ys k) w
 have HCM := hide hcm
 have HX := hide hx
 have HY := hide hy
 clear hcm hx hy
 go_enter Tryz.func119, Tryz.ntmps119
 go_wp2_with fail
 go_loop [11] (fun i => ∃ k : Nat, i = .int .i64 k ∧ k ≤ xs.length ∧ k ≤ ys.length ∧ Hid (cmpL xs ys = cmpL (xs.drop k) (ys.drop k))) (fun i => xs.length - (intOf i).toNat)
 case atStart => exact ⟨0, rfl, Nat.zero_le _, Nat.zero_le _, by show _ = _; rw [List.drop_zero, List.drop_zero]⟩
 case round =>
  obtain ⟨k, rfl, hk1, hk2, hq⟩ := hrel
  by_cases h1 : k < xs.length
  · obtain ⟨b1, o1, e1, _, hc1⟩ := (unhide HX).at_ (by omega)
    have g1 := hc1 k h1
    subst e1
    by_cases h2 : k < ys.length
    · obtain ⟨b2, o2, e2, _, hc2⟩ := (unhide HY).at_ (by omega)
      have g2 := hc2 k h2
      subst e2
      have hst := cmpL_drop h1 h2
      have hm := unhide HCM k
      have hbd := cmpI_bd (nth xs k) (nth ys k)
      obtain ⟨x, hxx⟩ : ∃ x, x = nth xs k := ⟨_, rfl⟩
      obtain ⟨y, hyy⟩ : ∃ y, y = nth ys k := ⟨_, rfl⟩
      rw [← hxx, ← hyy] at hm hst hbd
      rw [← hxx] at g1
      rw [← hyy] at g2
      obtain ⟨z, hz⟩ : ∃ z, z = cmpI x y := ⟨_, rfl⟩
      rw [← hz] at hm hst hbd
      have HST := Lib.hid hst
      have HM := hide hm
      clear hst hm hxx hyy hz hc1 hc2
      by_cases h0 : z = 0
      · have hze : (z != 0) = false := by simpa using h0
        have HE := Lib.hid h0
        clear h0
        go_wp2_with fail
        refine (unhide HM).mono ?_
        rintro e w1 ⟨rfl, rfl⟩
        go_wp2
        go_round
        case rel => exact ⟨k + 1, by go_num, by omega, by omega, by show _ = _; rw [hq.out, HST.out, if_pos HE.out]⟩
        case measure => simp only [intOf]; omega
      · have hze : (z != 0) = true := by simpa using h0
        have HE := Lib.hid h0
        clear h0
        go_wp2_with fail
        refine (unhide HM).mono ?_
        rintro e w1 ⟨rfl, rfl⟩
        go_wp2
        go_ret
        exact ⟨ret_int (by rw [hq.out, HST.out, if_neg HE.out]), rfl⟩
    · have hst := cmpL_long h1 h2
      have HST := Lib.hid hst
      clear hst
      go_wp2
      go_ret
      exact ⟨ret_int (by rw [hq.out, HST.out]), rfl⟩
  · by_cases h2 : k < ys.length
    · have hst := cmpL_short h1 h2
      have HST := Lib.hid hst
      clear hst
      have hlt : xs.length < ys.length := by omega
      go_wp2
      go_ret
      exact ⟨ret_int (by rw [hq.out, HST.out]), rfl⟩
    · have hst := cmpL_end h1 h2
      have HST := Lib.hid hst
      clear hst
      have hlt : ¬ xs.length < ys.length := by omega
      go_wp2
      go_ret
      exact ⟨ret_int (by rw [hq.out, HST.out]), rfl⟩
theorem bsearchL_any (a b : Option Addr) (c d : Nat) (xss : List (List Int)) (ys : List Int) (p : Nat) (w : World) (hx : RdS w a xss) (hy : Rd w b ys) (hn : xss.length ≤ 1000000) (hp : p ≤ xss.length)
    (h1 : ∀ i, i < p → cmpL (nthL xss i) ys < 0) (h2 : ∀ i, p ≤ i → i < xss.length → ¬ cmpL (nthL xss i) ys < 0) :
    Calls Tryz.prog 122 #[.slice a xss.length c, .slice b ys.length d, .func (.func 119) #[] #[]] w fun e w' => e = .returned (.tuple #[.int .i64 p, .bool (decide (p < xss.length) && decide (cmpL (nthL xss p) ys = 0))]) ∧ w = w' := by
 have hcm := fun a c (k : Nat) (hr : Rd w a (nthL xss k)) => compareL_any a b c d (nthL xss k) ys w hr hy
 obtain ⟨R, hR⟩ : ∃ R, R = (decide (p < xss.length) && decide (cmpL (nthL xss p) ys = 0)) := ⟨_, rfl⟩
 rw [← hR]
 have HR := Lib.hid hR
 clear hR
 have HCM := hide hcm
 have HX := hide hx
 have HP1 := hide h1
 have HP2 := hide h2
 clear hcm hx h1 h2 hy
 go_enter Tryz.func122, Tryz.ntmps122
 go_wp2_with fail
 go_loop [9, 10] (fun iv jv => ∃ i j : Nat, iv = .int .i64 i ∧ jv = .int .i64 j ∧ i ≤ p ∧ p ≤ j ∧ j ≤ xss.length) (fun iv jv => (intOf jv).toNat - (intOf iv).toNat)
 case atStart => exact ⟨0, xss.length, rfl, rfl, Nat.zero_le _, hp, Nat.le_refl _⟩
 case round =>
  obtain ⟨i, j, rfl, rfl, hi, hpj, hj⟩ := hrel
  by_cases hij : i < j
  · have hh : ∃ h : Nat, h = (i + j) / 2 ∧ i ≤ h ∧ h < j := ⟨_, rfl, by omega, by omega⟩
    obtain ⟨h, hh, hh1, hh2⟩ := hh
    have hhe : ((i : Int) + (j : Int)) / 2 = (h : Int) := by omega
    clear hh
    obtain ⟨b1, o1, e1, _, hc1⟩ := (unhide HX).at_ (by omega)
    subst e1
    obtain ⟨ai, ci, g1, r1⟩ := hc1 h (by omega)
    have hm := unhide HCM ai ci h r1
    have hlt := unhide HP1 h
    have hge := unhide HP2 h
    obtain ⟨z, hz⟩ : ∃ z, z = cmpL (nthL xss h) ys := ⟨_, rfl⟩
    rw [← hz] at hm hlt hge
    have HM := hide hm
    clear hm hz hc1 r1
    by_cases h0 : z < 0
    · have hhp : h < p := by
        rcases Nat.lt_or_ge h p with h3 | h3
        · exact h3
        · have := hge h3 (by omega); omega
      clear hlt hge
      go_wp2_with fail
      refine (unhide HM).mono ?_
      rintro e w1 ⟨rfl, rfl⟩
      go_wp2_with fail
      go_round
      case rel => exact ⟨h + 1, j, by go_num, rfl, by omega, hpj, hj⟩
      case measure => simp only [intOf]; omega
    · have hhp : p ≤ h := by
        rcases Nat.lt_or_ge h p with h3 | h3
        · exact absurd (hlt h3) h0
        · exact h3
      clear hlt hge
      go_wp2_with fail
      refine (unhide HM).mono ?_
      rintro e w1 ⟨rfl, rfl⟩
      go_wp2_with fail
      go_round
      case rel => exact ⟨i, h, rfl, rfl, hi, hhp, by omega⟩
      case measure => simp only [intOf]; omega
  · have hie : i = p := by omega
    subst hie
    by_cases hpl : i < xss.length
    · obtain ⟨b1, o1, e1, _, hc1⟩ := (unhide HX).at_ (by omega)
      subst e1
      obtain ⟨ai, ci, g1, r1⟩ := hc1 i hpl
      have hm := unhide HCM ai ci i r1
      obtain ⟨z, hz⟩ : ∃ z, z = cmpL (nthL xss i) ys := ⟨_, rfl⟩
      rw [← hz] at hm
      have HM := hide hm
      have HZ := Lib.hid hz
      clear hm hz hc1 r1
      by_cases h0 : z = 0
      · have hze : (z == 0) = true := by simpa using h0
        have hdd : R = true := by rw [HR.out, ← HZ.out]; simp [hpl, h0]
        have HD := Lib.hid hdd
        clear hdd
        have HZ0 := Lib.hid h0
        clear h0
        go_wp2_with fail
        refine (unhide HM).mono ?_
        rintro e w1 ⟨rfl, rfl⟩
        go_wp2_with fail
        go_ret2
        exact ⟨by rw [HD.out]; rfl, rfl⟩
      · have hze : (z == 0) = false := by simpa using h0
        have hdd : R = false := by rw [HR.out, ← HZ.out]; simp [h0]
        have HD := Lib.hid hdd
        clear hdd
        go_wp2_with fail
        refine (unhide HM).mono ?_
        rintro e w1 ⟨rfl, rfl⟩
        go_wp2_with fail
        go_ret2
        exact ⟨by rw [HD.out]; rfl, rfl⟩
    · have hdd : R = false := by rw [HR.out]; simp [hpl]
      have HD := Lib.hid hdd
      clear hdd
      go_wp2_with fail
      go_ret2
      exact ⟨by rw [HD.out]; rfl, rfl⟩
end Go.Proofs.YtgfcbmflnldicaaGreat
namespace Go.Proofs.YtgfcbmflnldicaaGreat
open Go.RowKit
def lenOf : Value → Nat
 | .slice _ n _ => n
 | _ => 0
end Go.Proofs.YtgfcbmflnldicaaGreat
