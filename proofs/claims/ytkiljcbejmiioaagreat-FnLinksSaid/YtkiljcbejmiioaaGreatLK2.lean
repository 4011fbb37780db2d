/-
  Texts joined.
-/
import Derived.StillTailTactics
import Derived.Test.YtkiljcbejmiioaaGreatLK1
set_option linter.unusedVariables false
set_option linter.unusedSimpArgs false
set_option maxRecDepth 100000
set_option maxHeartbeats 40000000
namespace Go.Proofs.YtkiljcbejmiioaaGreat
open Go.RowKit
def lenOf : Value → Nat
 | .slice _ n _ => n
 | _ => 0
theorem rest_step {x p c y : Int} : (x + (p - c) * y) % p = (x - c * y) % p := by
 rw [Int.sub_mul, show x + (p * y - c * y) = x - c * y + p * y by omega, Int.add_mul_emod_self_left]
theorem l03Rest_any (a b : Option Addr) (c d : Nat) (xs ys : List Int) (p : Int) (w : World) (hx : Rd w a xs) (hy : Rd w b ys) (hp : 1 ≤ p) (hp2 : p ≤ 1000) (hxr : InR p xs) (hyr : ∀ y ∈ ys, 0 ≤ y ∧ y ≤ p) (hn : 1 ≤ xs.length) (hm : 2 ≤ ys.length) (hmn : ys.length - 1 ≤ xs.length) :
    Calls Tryz.prog 116 #[.slice a xs.length c, .slice b ys.length d, .int .i64 p] w fun e w' => ∃ v, e = .returned v ∧ Own w' w.heap.size v (prem p ys xs) ∧ Below w.heap.size w w' := by
 have hxl := hx.len
 have hyl := hy.len
 go_enter Tryz.func116, Tryz.ntmps116
 go_wp2_with fail
 refine (l00Own_any a c xs w hx).mono ?_
 rintro e w1 ⟨v, rfl, o1, b1⟩
 rcases o1.slice_form with ⟨rfl, rfl⟩ | ⟨g, cg, rfl, hB, hg⟩
 · simp at hn
 have hcap := o1.cap
 unfold maxLen at hcap
 obtain ⟨hcap1, hcap2⟩ := hcap
 clear hx
 go_wp2_with fail
 go_loopw [9] (fun kv wr => ∃ (t : Nat) (k : Int), kv = .int .i64 k ∧ Hid (k = (xs.length : Int) - 1 - t) ∧ k ≤ (xs.length : Int) - 1 ∧ (ys.length : Int) - 2 ≤ k ∧ Own wr w.heap.size (.slice (some ⟨g, 0, none⟩) xs.length cg) (remTo p ys xs t) ∧ Below w.heap.size w wr ∧ Hid (t ≤ xs.length - (ys.length - 1))) (fun kv _ => (intOf kv + 1).toNat)
 case atStart => exact ⟨0, _, rfl, show _ = _ by simp, by omega, by omega, o1, b1, Nat.zero_le _⟩
 case round =>
  obtain ⟨t, k, rfl, HK, hk1, hk2, ho, hb, hT⟩ := hrel
  have hlen := remTo_len p ys xs t
  by_cases hgo : (ys.length : Int) - 1 ≤ k
  · obtain ⟨i, rfl⟩ := Int.eq_ofNat_of_zero_le (show 0 ≤ k by omega)
    have hil : i < xs.length := by omega
    obtain ⟨R, hR⟩ : ∃ R, R = remTo p ys xs t := ⟨_, rfl⟩
    rw [← hR] at ho hlen
    have hRr : InR p R := by rw [hR]; exact remTo_in (by omega) hxr ys t
    have hc1 := ho.cell (j := i) (by omega)
    have hf := hRr.nth (i := i) (by omega)
    obtain ⟨F, hF⟩ : ∃ F, F = nth R i := ⟨_, rfl⟩
    rw [← hF] at hc1 hf
    have hf0 := hf.1
    have hf1 := hf.2
    have HR := Lib.hid hR
    have HF := Lib.hid hF
    have HL := Lib.hid hlen
    clear hR hF hlen hf
    obtain ⟨O, hO⟩ : ∃ O : Nat, O = i - (ys.length - 1) := ⟨_, rfl⟩
    have hiO : (i : Int) - (ys.length : Int) + 1 = (O : Int) := by omega
    have hOx : O + ys.length ≤ xs.length := by omega
    have HOO := Lib.hid hO
    clear hO
    go_wp2_with fail
    go_loopw [11] (fun jv wr2 => ∃ (j : Nat), jv = .int .i64 j ∧ j ≤ ys.length ∧ Own wr2 w.heap.size (.slice (some ⟨g, 0, none⟩) xs.length cg) (setK R ys F p (O) j) ∧ Below w.heap.size w wr2) (fun jv _ => ys.length - (intOf jv).toNat)
    case atStart => exact ⟨0, rfl, Nat.zero_le _, ho, hb⟩
    case round =>
     obtain ⟨j, rfl, hj, ho2, hb2⟩ := hrel
     have hSl := setK_len R ys F p (O) j
     by_cases hjl : j < ys.length
     · have hoff : O + j < xs.length := by omega
       obtain ⟨b2, o2, rfl, _, hcy⟩ := (hy.below hb2).at_ (by omega)
       have hy1 := hcy j hjl
       have hx1 := ho2.cell (j := O + j) (by rw [hSl, HL.out]; omega)
       rw [setK_nth _ _ _ _ _ (.inr (Nat.le_refl _))] at hx1
       have hxf := ho2.frozen (O + j)
       have hyb := hyr _ (nth_mem hjl)
       have hxb := hRr.nth (i := O + j) (by rw [HL.out]; omega)
       generalize hX : nth R (O + j) = X at hx1 hxb
       generalize hY : nth ys j = Y at hy1 hyb
       obtain ⟨hyb1, hyb2⟩ := hyb
       obtain ⟨hxb1, hxb2⟩ := hxb
       have hFY0 : 0 ≤ (p - F) * Y := Int.mul_nonneg (by omega) hyb1
       have hFY1 : (p - F) * Y ≤ 1000000 := by
        have := Int.mul_le_mul (show p - F ≤ 1000 by omega) (show Y ≤ 1000 by omega) hyb1 (by omega)
        omega
       have ht1 := Int.emod_nonneg (X + (p - F) * Y) (show p ≠ 0 by omega)
       have ht2 := Int.emod_lt_of_pos (X + (p - F) * Y) (show 0 < p by omega)
       have HX := Lib.hid hX
       have HY := Lib.hid hY
       have HO2 := Lib.hid ho2
       have HO := Lib.hid ho
       have HS := Lib.hid hSl
       clear hX hY ho2 ho hSl hcy
       go_wp2_with fail
       go_region
       go_wp2
       go_roundw
       case rel =>
        have hs := HO2.out.set (O + j) ((X + (p - F) * Y) % p)
        refine ⟨j + 1, by go_num, by omega, ?_, (hb2.setCell (by show w.heap.size ≤ g; omega) _).drew⟩
        rw [setK, HX.out, HY.out, ← rest_step]
        exact hs.1
       case measure => simp only [intOf]; omega
     · have hje : j = ys.length := by omega
       have HJ := Lib.hid hje
       have HO2 := Lib.hid ho2
       clear hje ho2 ho hSl
       go_wp2
       go_roundw
       case rel =>
        have e1 := HJ.out
        have e2 := HR.out
        have e3 := HF.out
        have e4 := HK.out
        have e5 := HOO.out
        have o := HO2.out
        rw [e1] at o
        refine ⟨t + 1, (i : Int) - 1, rfl, show _ = _ by omega, by omega, by omega, ?_, hb2, show _ ≤ _ by omega⟩
        rw [remTo, ← e2, show xs.length - 1 - t = i by omega, ← e3, ← e5]
        exact o
       case measure => simp only [intOf]; omega
  · have hTe : t = xs.length - (ys.length - 1) := by have := hT.out; have := HK.out; omega
    have HTE := Lib.hid hTe
    have HL := Lib.hid hlen
    have HO := Lib.hid ho
    have hb3 := hb
    clear hTe hlen ho hb
    go_wp2_with fail
    go_loopw [7] (fun v wr2 => ∃ (L : Nat), v = .slice (some ⟨g, 0, none⟩) L cg ∧ ys.length - 1 ≤ L ∧ L ≤ xs.length ∧ wr2 = wr) (fun v _ => lenOf v)
    case atStart => exact ⟨xs.length, rfl, hmn, Nat.le_refl _, rfl⟩
    case round =>
     obtain ⟨L, rfl, hL1, hL2, rfl⟩ := hrel
     by_cases hLn : ys.length ≤ L
     · go_wp2
       go_roundw
       case rel => exact ⟨L - 1, by go_num, by omega, by omega, by simp⟩
       case measure => simp only [lenOf]; omega
     · go_wp2
       go_ret
       have e1 := HTE.out
       rw [e1] at HO
       obtain rfl : L = ys.length - 1 := by omega
       exact ⟨_, rfl, HO.out.take hmn, hb3⟩
end Go.Proofs.YtkiljcbejmiioaaGreat
namespace Go.Proofs.YtkiljcbejmiioaaGreat
open Go.RowKit
theorem num_isZ {p : Int} (hp : 0 < p) {xs : List Int} (h : InR p xs) : isZ xs = (num p xs == 0) := by
 have h0 := num_zero hp h
 rw [Bool.eq_iff_iff, beq_iff_eq, h0]
 simp [isZ, notZero]
theorem l03Irreducible_any (a : Option Addr) (c : Nat) (poly : List Int) (p : Int) (w : World) (hx : Rd w a poly) (hp : 2 ≤ p) (hp2 : p ≤ 64) (hr : InR p poly) (hn : 2 ≤ poly.length) (hq : p ^ (poly.length - 1) ≤ 64) :
    Calls Tryz.prog 61 #[.slice a poly.length c, .int .i64 p] w fun e w' => e = .returned (.bool (irr poly p)) ∧ Below w.heap.size w w' := by
 have hxl := hx.len
 obtain ⟨D, hD⟩ : ∃ D : Nat, D = poly.length - 1 := ⟨_, rfl⟩
 have HD := Lib.hid hD
 have hD1 : 1 ≤ D := by omega
 have hpl : (poly.length : Int) = D + 1 := by omega
 have HPL := Lib.hid hpl
 clear hD hpl
 have hD6 : D ≤ 6 := by
  rcases Nat.lt_or_ge 6 D with h | h
  · have h1 := pow_mono (p := p) (by omega) (show 7 ≤ poly.length - 1 by have := HD.out; omega)
    have h2 : (2 : Int) ^ 7 ≤ p ^ 7 := pow_base (by omega) hp 7
    have h3 : (2 : Int) ^ 7 = 128 := rfl
    omega
  · exact h
 go_enter Tryz.func61, Tryz.ntmps61
 go_wp2_with fail
 go_loopw [6] (fun dv wr => ∃ d : Nat, dv = .int .i64 d ∧ 1 ≤ d ∧ d ≤ 7 ∧ Below w.heap.size w wr ∧ Hid (∀ d', 1 ≤ d' → d' < d → 2 * d' ≤ poly.length - 1 → irrD poly p d' = true)) (fun dv _ => D + 1 - (intOf dv).toNat)
 case atStart => exact ⟨1, rfl, by omega, by omega, Below.refl _ _, fun d' h1 h2 => by omega⟩
 case round =>
  obtain ⟨d, rfl, hd1, hd7, hb, hall⟩ := hrel
  by_cases hgo2 : 2 * (d : Int) ≤ (poly.length : Int) - 1
  · have hgo : 2 * d ≤ D := by have := HPL.out; omega
    go_wp2_with fail
    have hpd : p ^ d ≤ 64 := Int.le_trans (pow_mono (by omega) (show d ≤ poly.length - 1 by have := HD.out; omega)) hq
    have hpd0 : 0 ≤ p ^ d := Int.pow_nonneg (by omega)
    have hpw := fun W => l03Power_any p d W (by omega) (by omega) (by omega) (by omega)
    obtain ⟨P, hP⟩ : ∃ P, P = p ^ d := ⟨_, rfl⟩
    rw [← hP] at hpw hpd hpd0
    have HP := Lib.hid hP
    have HPW := hide hpw
    clear hpw hP
    go_loopw [7] (fun nv wr2 => ∃ n : Nat, nv = .int .i64 n ∧ n ≤ 64 ∧ Below w.heap.size w wr2 ∧ Hid (∀ n' : Nat, n' < n → isZ (prem p (dig n' p d ++ [1]) poly) = false)) (fun nv _ => P.toNat - (intOf nv).toNat)
    case atStart => exact ⟨0, rfl, by omega, hb, fun n' h => by omega⟩
    case round =>
     obtain ⟨n, rfl, hn64, hb2, hn'⟩ := hrel
     have hsz := hb2.size
     go_wp2_with fail
     refine (unhide HPW _).mono ?_
     rintro e w2 ⟨rfl, rfl⟩
     by_cases hlt : (n : Int) < P
     · go_wp2_with fail
       refine (l03Digits_any n p d _ (by omega) (by omega) (by omega) (by omega) (by omega)).mono ?_
       rintro e w3 ⟨v3, rfl, o3, b3⟩
       have hx3 := (hx.below hb2).below b3
       have hb3 := hb2.trans (b3.mono hsz)
       have hsz3 := b3.size
       go_wp2_with (at_builtin; refine wpList_append_ints rfl (.tmp 29) (.tmp 30) rfl _ v3 (dig n p d) [1] rfl (o3.alloc _) _ 1 1 rfl rfl (Rd.lit1 w3 _) (by rw [dig_len]; simp; omega) (by simp; omega) ?_; intro v4 w4 o4 hg4 _)
       have hb4 : Below wr.heap.size w3 w4 := Below.step ((Below.refl _ _).alloc hsz3 _) hg4 (o3.alloc _) (Nat.le_refl _) (by simp; omega)
       have hsz4 := hb4.size
       have hb4' := hb3.trans (hb4.mono hsz)
       have hx4 := hx.below hb4'
       have HO4 : Hid (Own w4 wr.heap.size v4 (dig n p d ++ [1])) := o4
       obtain ⟨a4, c4, rfl, r4, _⟩ := o4.form
       refine (l03Rest_any a a4 c c4 poly (dig n p d ++ [1]) p w4 hx4 r4 (by omega) (by omega) hr (fun y hy => by have := (InR.app (dig_range (by omega) d) hp) y hy; omega) (by omega) (by rw [List.length_append, dig_len]; simp; omega) (by rw [List.length_append, dig_len]; simp; have := HD.out; omega)).mono ?_
       rintro e w5 ⟨v5, rfl, o5, b5⟩
       obtain ⟨a5, c5, rfl, r5, _⟩ := o5.form
       have hb5 := hb4'.trans (b5.mono (by omega))
       clear HO4 hx3 hx4 r4 o5 hg4 o3 o4
       have hpr : InR p (prem p (dig n p d ++ [1]) poly) := prem_in (by omega) hr _
       have hplen : (prem p (dig n p d ++ [1]) poly).length ≤ d := by rw [prem_len, List.length_append, dig_len]; simp; omega
       have hpp : p ^ (prem p (dig n p d ++ [1]) poly).length ≤ 1099511627776 := Int.le_trans (pow_mono (by omega) hplen) (by have := HP.out; omega)
       have hz0 := num_isZ (show 0 < p by omega) hpr
       go_wp2_with fail
       refine (l03Number_any a5 c5 _ p w5 r5 (by omega) (by omega) hpr hpp).mono ?_
       rintro e w6 ⟨rfl, rfl⟩
       generalize num p (prem p (dig n p d ++ [1]) poly) = N at hz0
       generalize hz : isZ (prem p (dig n p d ++ [1]) poly) = z at hz0
       have HZ := Lib.hid hz
       clear hz r5 hpp hplen hpr
       have hz1 : (N == 0) = z := hz0.symm
       clear hz0
       cases z
       · go_wp2
         go_roundw
         case rel =>
          refine ⟨n + 1, by go_num, by omega, hb5, fun n' hn2 => ?_⟩
          rcases Nat.lt_succ_iff_lt_or_eq.1 hn2 with h | rfl
          · exact hn'.out n' h
          · exact HZ.out
         case measure => simp only [intOf]; omega
       · go_wp2
         go_ret
         have e1 := HP.out
         exact ⟨ret_bool (irr_no hd1 (by have := HD.out; omega) (irrD_no (by omega) HZ.out)).symm, hb5⟩
     · go_wp2
       go_roundw
       case rel =>
        refine ⟨d + 1, by go_num, by omega, by omega, hb2, fun d' h1 h2 h3 => ?_⟩
        rcases Nat.lt_succ_iff_lt_or_eq.1 h2 with h | rfl
        · exact hall.out d' h1 h h3
        · have e1 := HP.out
          exact irrD_yes (fun m hm => hn'.out m (by omega))
       case measure => simp only [intOf]; omega
  · go_wp2
    go_ret
    exact ⟨ret_bool (irr_yes (fun d' h1 h2 => hall.out d' h1 (by omega) h2)).symm, hb⟩
end Go.Proofs.YtkiljcbejmiioaaGreat
namespace Go.Proofs.YtkiljcbejmiioaaGreat
open Go.RowKit
def cmpI (x y : Int) : Int := if x < y then -1 else if y < x then 1 else 0
theorem isNaN_any (x : Int) (w : World) : Calls Tryz.prog 142 #[.int .i64 x] w fun e w' => e = .returned (.bool false) ∧ w = w' := by
 have h : (x != x) = false := by simp
 go_enter Tryz.func142, Tryz.ntmps142
 go_wp2
 go_ret
 exact ⟨rfl, rfl⟩
theorem compare_any (x y : Int) (w : World) : Calls Tryz.prog 122 #[.int .i64 x, .int .i64 y] w fun e w' => e = .returned (.int .i64 (cmpI x y)) ∧ w = w' := by
 have h1 := isNaN_any x w
 have h2 := isNaN_any y w
 have H1 := hide h1
 have H2 := hide h2
 clear h1 h2
 by_cases hxy : x < y
 · go_enter Tryz.func122, Tryz.ntmps122
   go_wp2_with fail
   refine (unhide H1).mono ?_
   rintro e w1 ⟨rfl, rfl⟩
   go_wp2_with fail
   refine (unhide H2).mono ?_
   rintro e w1 ⟨rfl, rfl⟩
   go_wp2
   go_ret
   exact ⟨ret_int (by simp [cmpI, hxy]), rfl⟩
 · by_cases hyx : y < x
   · go_enter Tryz.func122, Tryz.ntmps122
     go_wp2_with fail
     refine (unhide H1).mono ?_
     rintro e w1 ⟨rfl, rfl⟩
     go_wp2_with fail
     refine (unhide H2).mono ?_
     rintro e w1 ⟨rfl, rfl⟩
     go_wp2
     go_ret
     exact ⟨ret_int (by unfold cmpI; rw [if_neg (by omega), if_pos hyx]), rfl⟩
   · go_enter Tryz.func122, Tryz.ntmps122
     go_wp2_with fail
     refine (unhide H1).mono ?_
     rintro e w1 ⟨rfl, rfl⟩
     go_wp2_with fail
     refine (unhide H2).mono ?_
     rintro e w1 ⟨rfl, rfl⟩
     go_wp2
     go_ret
     exact ⟨ret_int (by unfold cmpI; rw [if_neg (by omega), if_neg (by omega)]), rfl⟩
def cmpL : List Int → List Int → Int
 | [], [] => 0
 | [], _ :: _ => -1
 | _ :: _, [] => 1
 | x :: xs, y :: ys => if cmpI x y = 0 then cmpL xs ys else cmpI x y
theorem drop_nth {xs : List Int} {k : Nat} (h : k < xs.length) : xs.drop k = nth xs k :: xs.drop (k + 1) := by
 rw [show nth xs k = xs[k] by simp [nth, h]]
 exact List.drop_eq_getElem_cons h
theorem cmpL_drop {xs ys : List Int} {k : Nat} (hx : k < xs.length) (hy : k < ys.length) : cmpL (xs.drop k) (ys.drop k) = if cmpI (nth xs k) (nth ys k) = 0 then cmpL (xs.drop (k + 1)) (ys.drop (k + 1)) else cmpI (nth xs k) (nth ys k) := by
 rw [drop_nth hx, drop_nth hy, cmpL]
theorem cmpL_long {xs ys : List Int} {k : Nat} (hx : k < xs.length) (hy : ¬ k < ys.length) : cmpL (xs.drop k) (ys.drop k) = 1 := by
 rw [drop_nth hx, show ys.drop k = [] from List.drop_eq_nil_of_le (by omega)]
 rfl
theorem cmpL_short {xs ys : List Int} {k : Nat} (hx : ¬ k < xs.length) (hy : k < ys.length) : cmpL (xs.drop k) (ys.drop k) = -1 := by
 rw [drop_nth hy, show xs.drop k = [] from List.drop_eq_nil_of_le (by omega)]
 rfl
theorem cmpL_end {xs ys : List Int} {k : Nat} (hx : ¬ k < xs.length) (hy : ¬ k < ys.length) : cmpL (xs.drop k) (ys.drop k) = 0 := by
 rw [show ys.drop k = [] from List.drop_eq_nil_of_le (by omega), show xs.drop k = [] from List.drop_eq_nil_of_le (by omega)]
 rfl
theorem cmpI_bd (x y : Int) : -1 ≤ cmpI x y ∧ cmpI x y ≤ 1 := by
 unfold cmpI
 split
 · omega
 · split <;> omega
theorem compareL_any (a b : Option Addr) (c d : Nat) (xs ys : List Int) (w : World) (hx : Rd w a xs) (hy : Rd w b ys) :
    Calls Tryz.prog 67 #[.slice a xs.length c, .slice b ys.length d] w fun e w' => e = .returned (.int .i64 (cmpL xs ys)) ∧ w = w' := by
 have hxl := hx.len
 have hyl := hy.len
 have hcm := fun k => compare_any (nth xs k) (nth ys k) w
 have HCM := hide hcm
 have HX := hide hx
 have HY := hide hy
 clear hcm hx hy
 go_enter Tryz.func67, Tryz.ntmps67
 go_wp2_with fail
 go_loop [11] (fun i => ∃ k : Nat, i = .int .i64 k ∧ k ≤ xs.length ∧ k ≤ ys.length ∧ Hid (cmpL xs ys = cmpL (xs.drop k) (ys.drop k))) (fun i => xs.length - (intOf i).toNat)
 case atStart => exact ⟨0, rfl, Nat.zero_le _, Nat.zero_le _, by show _ = _; rw [List.drop_zero, List.drop_zero]⟩
 case round =>
  obtain ⟨k, rfl, hk1, hk2, hq⟩ := hrel
  by_cases h1 : k < xs.length
  · obtain ⟨b1, o1, e1, _, hc1⟩ := (unhide HX).at_ (by omega)
    have g1 := hc1 k h1
    subst e1
    by_cases h2 : k < ys.length
    · obtain ⟨b2, o2, e2, _, hc2⟩ := (unhide HY).at_ (by omega)
      have g2 := hc2 k h2
      subst e2
      have hst := cmpL_drop h1 h2
      have hm := unhide HCM k
      have hbd := cmpI_bd (nth xs k) (nth ys k)
      obtain ⟨x, hxx⟩ : ∃ x, x = nth xs k := ⟨_, rfl⟩
      obtain ⟨y, hyy⟩ : ∃ y, y = nth ys k := ⟨_, rfl⟩
      rw [← hxx, ← hyy] at hm hst hbd
      rw [← hxx] at g1
      rw [← hyy] at g2
      obtain ⟨z, hz⟩ : ∃ z, z = cmpI x y := ⟨_, rfl⟩
      rw [← hz] at hm hst hbd
      have HST := Lib.hid hst
      have HM := hide hm
      clear hst hm hxx hyy hz hc1 hc2
      by_cases h0 : z = 0
      · have hze : (z != 0) = false := by simpa using h0
        have HE := Lib.hid h0
        clear h0
        go_wp2_with fail
        refine (unhide HM).mono ?_
        rintro e w1 ⟨rfl, rfl⟩
        go_wp2
        go_round
        case rel => exact ⟨k + 1, by go_num, by omega, by omega, by show _ = _; rw [hq.out, HST.out, if_pos HE.out]⟩
        case measure => simp only [intOf]; omega
      · have hze : (z != 0) = true := by simpa using h0
        have HE := Lib.hid h0
        clear h0
        go_wp2_with fail
        refine (unhide HM).mono ?_
        rintro e w1 ⟨rfl, rfl⟩
        go_wp2
        go_ret
        exact ⟨ret_int (by rw [hq.out, HST.out, if_neg HE.out]), rfl⟩
    · have hst := cmpL_long h1 h2
      have HST := Lib.hid hst
      clear hst
      go_wp2
      go_ret
      exact ⟨ret_int (by rw [hq.out, HST.out]), rfl⟩
  · by_cases h2 : k < ys.length
    · have hst := cmpL_short h1 h2
      have HST := Lib.hid hst
      clear hst
      have hlt : xs.length < ys.length := by omega
      go_wp2
      go_ret
      exact ⟨ret_int (by rw [hq.out, HST.out]), rfl⟩
    · have hst := cmpL_end h1 h2
      have HST := Lib.hid hst
      clear hst
      have hlt : ¬ xs.length < ys.length := by omega
      go_wp2
      go_ret
      exact ⟨ret_int (by rw [hq.out, HST.out]), rfl⟩
end Go.Proofs.YtkiljcbejmiioaaGreat
