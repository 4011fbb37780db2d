/-
  Texts joined.
-/
import Derived.Test.YtgfcbmflnldicaaGreatRF3
import Derived.Test.YtgfcbmflnldicaaGreatRF6
import Derived.Test.YtgfcbmflnldicaaGreatRF7
import Derived.Test.YtgfcbmflnldicaaGreatRF11
import Derived.Test.YtgfcbmflnldicaaGreatRF17
import Derived.Test.YtgfcbmflnldicaaGreatRF29
import Derived.Test.YtgfcbmflnldicaaGreatRF32
import Derived.Test.YtgfcbmflnldicaaGreatRF36
set_option linter.unusedVariables false
set_option linter.unusedSimpArgs false
set_option maxRecDepth 100000
set_option maxHeartbeats 40000000
namespace Go.Proofs.YtgfcbmflnldicaaGreat
open Go.RowKit
attribute [local go_sem ↓] Go.wp_at_zero Go.wp_at_succ
theorem flatE_consD (e : Int × Int) (es : List (Int × Int)) : flatE (e :: es) = .int .i64 e.1 :: .int .i64 e.2 :: flatE es := by simp [flatE]
theorem flatE_takeD : ∀ (es : List (Int × Int)) (m : Nat), flatE (es.take m) = (flatE es).take (m * 2)
 | [], m => by simp [flatE]
 | e :: es, 0 => by simp [flatE]
 | e :: es, m + 1 => by
  rw [List.take_succ_cons, flatE_consD, flatE_consD, flatE_takeD es m, show (m + 1) * 2 = m * 2 + 1 + 1 by omega, List.take_succ_cons, List.take_succ_cons]
theorem OwnE.take {w : World} {B g n c : Nat} {es : List (Int × Int)} (h : OwnE w B (.slice (some ⟨g, 0, none⟩) n c) es) {m : Nat} (hm : m ≤ n) : OwnE w B (.slice (some ⟨g, 0, none⟩) m c) (es.take m) := by
 obtain ⟨hl, h1, h3⟩ := h
 rcases h3 with ⟨e, _⟩ | ⟨g', cap, cur, e, hb, hg, hn, hcm, hs, ht⟩
 · cases e
 · injection e with e1 e2 e3
   injection e1 with e1
   injection e1 with e1
   subst e1
   subst e3
   have hml : (es.take m).length = m := by rw [List.length_take]; omega
   refine ⟨by rw [hml]; omega, ?_, .inr ?_⟩
   · rw [flatE_len]
   · rw [hml]
     refine ⟨g, c, cur, rfl, hb, hg, by omega, hcm, hs, ?_⟩
     rw [flatE_takeD, ← ht, List.take_take]
     congr 1
     omega
theorem OwnE.cap {w : World} {B n c : Nat} {a : Option Addr} {es : List (Int × Int)} (h : OwnE w B (.slice a n c) es) : n ≤ c := by
 rcases h.2.2 with ⟨e, _⟩ | ⟨g', cap, cur, e, _, _, hn, _⟩
 · injection e with _ e1 e2; omega
 · injection e with _ e1 e2; omega
theorem OwnE.mk {w w' : World} {B g : Nat} {v : Value} {es : List (Int × Int)} (h : OwnE w B v es) (m : Mk w w' g (g + 1)) (hB : g < B) : OwnE w' B v es := (h.toH.kp (m.kp (.inr (by omega)) (Nat.le_refl _))).1
theorem OwnG2.mk {w w' : World} {B g : Nat} {v u : Value} {xs : List Int} {es : List (Int × Int)} (h : OwnG2 w B v u xs es) (m : Mk w w' g (g + 1)) (hB : g < B) : OwnG2 w' B v u xs es := ⟨h.1.mk m hB, h.2.mk m hB⟩
theorem TabB.mk {w w' : World} {B g k n : Nat} {v : Value} {T : Nat → Nat → Bool} (h : TabB w B v k n T) (m : Mk w w' g (g + 1)) (hB : g < B) : TabB w' B v k n T := by
 obtain ⟨f, h1, h2, h3⟩ := h
 refine ⟨f, ownsRow_kp h1 h1.lt (m.kp (.inr (by omega)) (Nat.le_refl _)), fun i hi => ⟨(h2 i hi).1, (h2 i hi).2.of_block ?_⟩, h3⟩
 exact (m.kp (lo' := B) (hi' := w.heap.size) (.inr (by omega)) (Nat.le_refl _)).2 _ (h2 i hi).1 (h2 i hi).2.lt
def GrD (w : World) (g T : Nat) (e : Ending) (w' : World) : Prop := ∃ (v u : Value) (xs : List Int) (es : List (Int × Int)), e = .returned (.agg #[v, u]) ∧ OwnG2 w' w.heap.size v u xs es ∧ xs.length ≤ 70 ∧ es.length ≤ 1000 ∧ Src w' g T ∧ Mk w w' g (g + 1)
def GrS (w : World) (g T n : Nat) (e : Ending) (w' : World) : Prop := ∃ (v u : Value) (xs : List Int) (es : List (Int × Int)), e = .returned (.agg #[v, u]) ∧ OwnG2 w' w.heap.size v u xs es ∧ xs.length = n ∧ es.length ≤ 512 ∧ Src w' g T ∧ Mk w w' g (g + 1)
theorem l21DrawSize_any (g T n : Nat) (w : World) (h : Src w g T) (hn : n ≤ 64) (hT : T ≤ 1000000) :
    Calls Tryz.prog 107 #[.pointer (some ⟨g, 0, none⟩), .int .i64 n] w (GrS w g (T + 10000) n) := by
 obtain ⟨W0, hW0⟩ : ∃ W0, W0 = w.alloc (.cells #[.slice none 0 0, .slice none 0 0] 27) := ⟨_, rfl⟩
 have b0 : Below w.heap.size w W0 := by rw [hW0]; exact (Below.refl _ _).alloc (Nat.le_refl _) _
 have k0 : Blk W0 w.heap.size 27 #[.slice none 0 0, .slice none 0 0] := by rw [hW0]; exact Blk.new _ _ _ rfl
 have z0 : w.heap.size < W0.heap.size := k0.lt
 have hlt := h.lt
 have HS0 := hide (h.below b0)
 have KZ := hide k0
 have HW := Lib.hid hW0
 clear hW0 h
 go_enter Tryz.func107, Tryz.ntmps107
 go_upto_region 1 with fail
 rw [← HW.out]
 obtain ⟨W1, hW1⟩ : ∃ W1, W1 = W0.alloc (.cells #[] 2) := ⟨_, rfl⟩
 have b1 : Below W0.heap.size W0 W1 := by rw [hW1]; exact (Below.refl _ _).alloc (Nat.le_refl _) _
 have O1 := hide (show Own W1 W0.heap.size (.slice (some ⟨W0.heap.size, 0, none⟩) 0 0) [] from by rw [hW1]; exact Own.empty W0 (Nat.le_refl _))
 have HW1 := Lib.hid hW1
 clear hW1
 go_upto_region 2 with fail
 rw [← HW1.out]
 go_wp2_with fail
 refine (pick_any g T 3 W1 ((unhide HS0).below b1) (by omega)).mono ?_
 rintro e w2 ⟨x2, rfl, hx2, _, s2, m2⟩
 have hx2' : x2 ≤ 2 := by omega
 obtain ⟨K, hK⟩ : ∃ K : Int, K = (x2 : Int) + 1 := ⟨_, rfl⟩
 have hwK : IntKind.i64.wrap ((x2 : Int) + 1) = K := by rw [hK]; exact IntWalk.i64_in _ (by omega)
 have m02 : Mk W0 w2 g (g + 1) := (Mk.alloc b1 (by omega)).trans m2
 have O2 := hide ((unhide O1).mk m2 (by omega))
 have z2 := m02.size
 clear hx2 hK hx2' m2 b1
 go_wp2_with fail
 go_loopw [5, 7] (fun sv iv wr => ∃ (v : Nat) (xs : List Int), iv = .int .i64 v ∧ v ≤ n ∧ Hid (xs.length = v) ∧ Hid (Own wr W0.heap.size sv xs) ∧ Src wr g (T + 2 + 2 * v) ∧ Mk W0 wr g (g + 1)) (fun _ iv _ => n - (intOf iv).toNat)
 case atStart => exact ⟨0, [], rfl, Nat.zero_le _, rfl, O2, s2, m02⟩
 case round =>
  obtain ⟨v, xs, rfl, hv, hxl, ho, hs, hm⟩ := hrel
  rename World => wx
  have hsz := hm.size
  by_cases hvn : v < n
  · have HO := hide ho.out
    obtain ⟨ao, co, rfl, _, _⟩ := ho.out.form
    clear ho
    go_wp2_with fail
    refine (pick_any g (T + 2 + 2 * v) K wx hs (by omega)).mono ?_
    rintro e w3 ⟨y, rfl, _, _, s3, m3⟩
    have o3 := (unhide HO).mk m3 (by omega)
    have m03 := hm.trans m3
    have z3 := m03.size
    have HO3 := hide o3
    have HXL := hxl
    clear o3 m3 hs hm hxl
    go_wp2_with (at_builtin; refine wpList_append_ints rfl (.tmp 23) (.tmp 27) rfl W0.heap.size _ xs [(y : Int)] rfl ((unhide HO3).alloc _) _ 1 1 rfl rfl (Rd.one w3 y _) (by rw [HXL.out]; simp; omega) (by simp; omega) ?_; intro v5 w5 o5 g5 _)
    have b5 : Below W0.heap.size w3 w5 := Below.step ((Below.refl _ _).alloc z3 _) g5 ((unhide HO3).alloc _) (Nat.le_refl _) (by simp; omega)
    have O5 := hide o5
    clear o5 g5
    go_roundw
    case rel => exact ⟨v + 1, xs ++ [(y : Int)], by go_num, by omega, (by show (xs ++ [(y : Int)]).length = v + 1; rw [List.length_append, HXL.out]; rfl), unhide O5, (s3.keep b5 (by omega)).mono (by omega), m03.new b5 (by omega)⟩
    case measure => simp only [intOf]; omega
  · have hve : v = n := by omega
    have hxn : xs.length = n := by rw [hxl.out, hve]
    obtain ⟨ao, co, rfl, _, _⟩ := ho.out.form
    rw [hxn]
    have HO := hide (show Own wx W0.heap.size (.slice ao n co) xs from by have h := ho.out; rw [hxn] at h; exact h)
    have HXN := Lib.hid hxn
    have htb := l21Table_any ao n co none 0 [] wx (by omega) (by exact ⟨by simp, fun h => absurd h (by simp)⟩) (by intro e he; cases he)
    have HTB := hide htb
    have S1 := hide (hs.mono (show T + 2 + 2 * v ≤ T + 200 by omega))
    have HM := hide hm
    clear hve hxl ho hxn htb hs hm
    go_wp2_with fail
    refine (unhide HTB).mono ?_
    rintro e w3 ⟨tv, rfl, t3, b3⟩
    obtain ⟨ta, tc, rfl⟩ := t3.form
    have s3 := (unhide S1).below b3
    have o3 : OwnH w3 W0.heap.size wx.heap.size (.slice ao n co) xs := (unhide HO).toH.kp (Kp.below b3 (Nat.le_refl _))
    have m3 := (unhide HM).new (b3.mono hsz) (by omega)
    have z3 := m3.size
    have zx3 := b3.size
    have T3 := hide t3
    have O3 := hide o3
    clear t3 o3
    go_wp2_with fail
    refine (pick_any g (T + 200) 4 w3 s3 (by omega)).mono ?_
    rintro e w4 ⟨q, rfl, hq, _, s4, m4⟩
    have hq4 : q ≤ 3 := by omega
    have t4 := (unhide T3).mk m4 (by omega)
    have O4 := hide ((unhide O3).kp (m4.kp (.inr (by omega)) (by omega)))
    have m04 := m3.trans m4
    have z4 := m04.size
    have T4 := hide (show ∃ T', TabB w4 wx.heap.size (.slice ta n tc) n n T' from ⟨_, t4⟩)
    clear hq t4 s3 m3 m4 T3 O3
    go_wp2_with fail
    go_loopw [10] (fun av wr => ∃ a : Nat, av = .int .i64 a ∧ a ≤ n ∧ Hid (∃ T', TabB wr wx.heap.size (.slice ta n tc) n n T') ∧ Hid (OwnH wr W0.heap.size wx.heap.size (.slice ao n co) xs) ∧ Src wr g (T + 300 + 130 * a) ∧ Mk W0 wr g (g + 1)) (fun av _ => n - (intOf av).toNat)
    case atStart => exact ⟨0, rfl, Nat.zero_le _, T4, O4, s4.mono (by omega), m04⟩
    case round =>
     obtain ⟨a, rfl, ha, ht, ho, hs, hm⟩ := hrel
     have hsza := hm.size
     rename World => wa
     by_cases han : a < n
     · have hwa : IntKind.i64.wrap ((a : Int) + 1) = ((a + 1 : Nat) : Int) := by rw [IntWalk.i64_in _ (by omega)]; omega
       obtain ⟨A1, hA1⟩ : ∃ A1, A1 = a + 1 := ⟨_, rfl⟩
       rw [← hA1] at hwa
       have hA1n : A1 ≤ n := by omega
       have hA1a : a < A1 := by omega
       have hSA := hs.mono (show T + 300 + 130 * a ≤ T + 300 + 130 * a + 2 * A1 by omega)
       have HA1 := Lib.hid hA1
       clear hA1 hs
       go_wp2_with fail
       go_loopw [11] (fun bv wr => ∃ b : Nat, bv = .int .i64 b ∧ A1 ≤ b ∧ b ≤ n ∧ Hid (∃ T', TabB wr wx.heap.size (.slice ta n tc) n n T') ∧ Hid (OwnH wr W0.heap.size wx.heap.size (.slice ao n co) xs) ∧ Src wr g (T + 300 + 130 * a + 2 * b) ∧ Mk W0 wr g (g + 1)) (fun bv _ => n - (intOf bv).toNat)
       case atStart => exact ⟨A1, rfl, Nat.le_refl _, hA1n, ht, ho, hSA, hm⟩
       case round =>
        obtain ⟨b, rfl, hAb, hb, ht, ho, hs, hm⟩ := hrel
        have hszb := hm.size
        by_cases hbn : b < n
        · have hwb : IntKind.i64.wrap ((b : Int) + 1) = ((b + 1 : Nat) : Int) := by rw [IntWalk.i64_in _ (by omega)]; omega
          have hwba : IntKind.i64.wrap ((b : Int) - (a : Int)) = (b : Int) - (a : Int) := IntWalk.i64_in _ (by omega)
          have hwn : IntKind.i64.wrap ((n : Int) - 1) = (n : Int) - 1 := IntWalk.i64_in _ (by omega)
          have hq0 : q = 0 ∨ q = 1 ∨ q = 2 ∨ q = 3 := by omega
          rcases hq0 with hq0 | hq0 | hq0 | hq0
          · skip
            have q0 : ((q : Int) == 0) = true := by rw [hq0]; rfl
            have q1 : ((q : Int) == 1) = false := by rw [hq0]; rfl
            have q2 : ((q : Int) == 2) = false := by rw [hq0]; rfl
            clear hq0
            obtain ⟨T9, h9⟩ := ht.out
            obtain ⟨_, gt, hta, hBg, _⟩ := h9.addr (by omega)
            subst hta
            obtain ⟨qq, c1, c2, p2, hBq, hqs, hgq, hfin⟩ := h9.at_ (a := a) (b := b) han hbn
            have FIN := hide hfin
            obtain ⟨tz, htz⟩ : ∃ tz, tz = T9 a b := ⟨_, rfl⟩
            rw [← htz] at c2
            have HO9 := hide ho.out
            have HS9 := hide hs
            have HM9 := hide hm
            clear htz hfin h9 ht ho hs hm
            by_cases h1 : b = A1
            · have e1 : ((b : Int) == (A1 : Int)) = true := by rw [h1]; simp
              clear h1
              go_wp2_with fail
              go_roundw
              case rel => exact ⟨b + 1, by first | rfl | go_num, by omega, by omega, ⟨_, (unhide FIN) _⟩, (unhide HO9).kp ((Kp.refl _ _ _).setCell (p := ⟨qq, b, none⟩) (.inr hBq) _), ((unhide HS9).mono (by omega)).kp ((Kp.refl _ _ _).setCell (p := ⟨qq, b, none⟩) (.inr (by show g + 1 ≤ qq; omega)) _), (unhide HM9).own (grownBy_setC _ _ _ _) (by omega) (by omega)⟩
              case measure => simp only [intOf]; omega
            · have e1 : ((b : Int) == (A1 : Int)) = false := by rw [beq_eq_false_iff_ne]; omega
              clear h1
              by_cases h2 : a = 0
              · have e2 : ((a : Int) == 0) = true := by rw [h2]; rfl
                clear h2
                by_cases h3 : (b : Int) = (n : Int) - 1
                · have e3 : ((b : Int) == (n : Int) - 1) = true := by rw [h3]; simp
                  clear h3
                  go_wp2_with fail
                  go_roundw
                  case rel => exact ⟨b + 1, by first | rfl | go_num, by omega, by omega, ⟨_, (unhide FIN) _⟩, (unhide HO9).kp ((Kp.refl _ _ _).setCell (p := ⟨qq, b, none⟩) (.inr hBq) _), ((unhide HS9).mono (by omega)).kp ((Kp.refl _ _ _).setCell (p := ⟨qq, b, none⟩) (.inr (by show g + 1 ≤ qq; omega)) _), (unhide HM9).own (grownBy_setC _ _ _ _) (by omega) (by omega)⟩
                  case measure => simp only [intOf]; omega
                · have e3 : ((b : Int) == (n : Int) - 1) = false := by rw [beq_eq_false_iff_ne]; exact h3
                  clear h3
                  go_wp2_with fail
                  go_roundw
                  case rel => exact ⟨b + 1, by first | rfl | go_num, by omega, by omega, ⟨_, (unhide FIN) _⟩, (unhide HO9).kp ((Kp.refl _ _ _).setCell (p := ⟨qq, b, none⟩) (.inr hBq) _), ((unhide HS9).mono (by omega)).kp ((Kp.refl _ _ _).setCell (p := ⟨qq, b, none⟩) (.inr (by show g + 1 ≤ qq; omega)) _), (unhide HM9).own (grownBy_setC _ _ _ _) (by omega) (by omega)⟩
                  case measure => simp only [intOf]; omega
              · have e2 : ((a : Int) == 0) = false := by rw [beq_eq_false_iff_ne]; omega
                clear h2
                go_wp2_with fail
                go_roundw
                case rel => exact ⟨b + 1, by first | rfl | go_num, by omega, by omega, ⟨_, (unhide FIN) _⟩, (unhide HO9).kp ((Kp.refl _ _ _).setCell (p := ⟨qq, b, none⟩) (.inr hBq) _), ((unhide HS9).mono (by omega)).kp ((Kp.refl _ _ _).setCell (p := ⟨qq, b, none⟩) (.inr (by show g + 1 ≤ qq; omega)) _), (unhide HM9).own (grownBy_setC _ _ _ _) (by omega) (by omega)⟩
                case measure => simp only [intOf]; omega
          · have S9 := hs
            have q0 : ((q : Int) == 0) = false := by rw [hq0]; rfl
            have q1 : ((q : Int) == 1) = true := by rw [hq0]; rfl
            have q2 : ((q : Int) == 2) = false := by rw [hq0]; rfl
            clear hq0
            go_wp2_with fail
            refine (pick_any g (T + 300 + 130 * a + 2 * b) 3 wr S9 (by omega)).mono ?_
            rintro e wp ⟨y, rfl, _, _, hs, mp⟩
            obtain ⟨T8, ht8⟩ := ht.out
            have hxw : wx.heap.size ≤ wr.heap.size := by obtain ⟨_, _, _, hxa, hxb⟩ := ht8.addr (by omega); omega
            have ht : Hid (∃ T', TabB wp wx.heap.size (.slice ta n tc) n n T') := ⟨_, ht8.mk mp (by omega)⟩
            have ho : Hid (OwnH wp W0.heap.size wx.heap.size (.slice ao n co) xs) := ho.out.kp (mp.kp (.inr (by omega)) (by omega))
            have hm := hm.trans mp
            clear S9 mp ht8
            obtain ⟨T9, h9⟩ := ht.out
            obtain ⟨_, gt, hta, hBg, _⟩ := h9.addr (by omega)
            subst hta
            obtain ⟨qq, c1, c2, p2, hBq, hqs, hgq, hfin⟩ := h9.at_ (a := a) (b := b) han hbn
            have FIN := hide hfin
            obtain ⟨tz, htz⟩ : ∃ tz, tz = T9 a b := ⟨_, rfl⟩
            rw [← htz] at c2
            have HO9 := hide ho.out
            have HS9 := hide hs
            have HM9 := hide hm
            clear htz hfin h9 ht ho hs hm
            go_wp2_with fail
            go_roundw
            case rel => exact ⟨b + 1, by first | rfl | go_num, by omega, by omega, ⟨_, (unhide FIN) _⟩, (unhide HO9).kp ((Kp.refl _ _ _).setCell (p := ⟨qq, b, none⟩) (.inr hBq) _), ((unhide HS9).mono (by omega)).kp ((Kp.refl _ _ _).setCell (p := ⟨qq, b, none⟩) (.inr (by show g + 1 ≤ qq; omega)) _), (unhide HM9).own (grownBy_setC _ _ _ _) (by omega) (by omega)⟩
            case measure => simp only [intOf]; omega
          · skip
            have q0 : ((q : Int) == 0) = false := by rw [hq0]; rfl
            have q1 : ((q : Int) == 1) = false := by rw [hq0]; rfl
            have q2 : ((q : Int) == 2) = true := by rw [hq0]; rfl
            clear hq0
            obtain ⟨T9, h9⟩ := ht.out
            obtain ⟨_, gt, hta, hBg, _⟩ := h9.addr (by omega)
            subst hta
            obtain ⟨qq, c1, c2, p2, hBq, hqs, hgq, hfin⟩ := h9.at_ (a := a) (b := b) han hbn
            have FIN := hide hfin
            obtain ⟨tz, htz⟩ : ∃ tz, tz = T9 a b := ⟨_, rfl⟩
            rw [← htz] at c2
            have HO9 := hide ho.out
            have HS9 := hide hs
            have HM9 := hide hm
            clear htz hfin h9 ht ho hs hm
            go_wp2_with fail
            go_roundw
            case rel => exact ⟨b + 1, by first | rfl | go_num, by omega, by omega, ⟨_, (unhide FIN) _⟩, (unhide HO9).kp ((Kp.refl _ _ _).setCell (p := ⟨qq, b, none⟩) (.inr hBq) _), ((unhide HS9).mono (by omega)).kp ((Kp.refl _ _ _).setCell (p := ⟨qq, b, none⟩) (.inr (by show g + 1 ≤ qq; omega)) _), (unhide HM9).own (grownBy_setC _ _ _ _) (by omega) (by omega)⟩
            case measure => simp only [intOf]; omega
          · have S9 := hs
            have q0 : ((q : Int) == 0) = false := by rw [hq0]; rfl
            have q1 : ((q : Int) == 1) = false := by rw [hq0]; rfl
            have q2 : ((q : Int) == 2) = false := by rw [hq0]; rfl
            clear hq0
            go_wp2_with fail
            refine (pick_any g (T + 300 + 130 * a + 2 * b) 2 wr S9 (by omega)).mono ?_
            rintro e wp ⟨y, rfl, _, _, hs, mp⟩
            obtain ⟨T8, ht8⟩ := ht.out
            have hxw : wx.heap.size ≤ wr.heap.size := by obtain ⟨_, _, _, hxa, hxb⟩ := ht8.addr (by omega); omega
            have ht : Hid (∃ T', TabB wp wx.heap.size (.slice ta n tc) n n T') := ⟨_, ht8.mk mp (by omega)⟩
            have ho : Hid (OwnH wp W0.heap.size wx.heap.size (.slice ao n co) xs) := ho.out.kp (mp.kp (.inr (by omega)) (by omega))
            have hm := hm.trans mp
            clear S9 mp ht8
            obtain ⟨T9, h9⟩ := ht.out
            obtain ⟨_, gt, hta, hBg, _⟩ := h9.addr (by omega)
            subst hta
            obtain ⟨qq, c1, c2, p2, hBq, hqs, hgq, hfin⟩ := h9.at_ (a := a) (b := b) han hbn
            have FIN := hide hfin
            obtain ⟨tz, htz⟩ : ∃ tz, tz = T9 a b := ⟨_, rfl⟩
            rw [← htz] at c2
            have HO9 := hide ho.out
            have HS9 := hide hs
            have HM9 := hide hm
            clear htz hfin h9 ht ho hs hm
            go_wp2_with fail
            go_roundw
            case rel => exact ⟨b + 1, by first | rfl | go_num, by omega, by omega, ⟨_, (unhide FIN) _⟩, (unhide HO9).kp ((Kp.refl _ _ _).setCell (p := ⟨qq, b, none⟩) (.inr hBq) _), ((unhide HS9).mono (by omega)).kp ((Kp.refl _ _ _).setCell (p := ⟨qq, b, none⟩) (.inr (by show g + 1 ≤ qq; omega)) _), (unhide HM9).own (grownBy_setC _ _ _ _) (by omega) (by omega)⟩
            case measure => simp only [intOf]; omega
        · have hbe : b = n := by omega
          have hSB := hs.mono (show T + 300 + 130 * a + 2 * b ≤ T + 300 + 130 * A1 by have := HA1.out; omega)
          clear hbe hs
          go_wp2
          go_roundw
          case rel => exact ⟨A1, by first | rfl | go_num, hA1n, ht, ho, hSB, hm⟩
          case measure => simp only [intOf]; omega
     · obtain ⟨T', htt⟩ := ht.out
       have hae : a = n := by omega
       have hof := l21Of_any ao co xs (.slice ta n tc) wx.heap.size T' wa (ho.out).rd (by have := HXN.out; omega) (by rw [HXN.out]; exact htt)
       rw [HXN.out] at hof
       have HOF := hide hof
       have SA := hide (hs.mono (show T + 300 + 130 * a ≤ T + 10000 by omega))
       have HMA := hide hm
       clear hae ht ho htt hof hs hm
       go_wp2_with fail
       refine (unhide HOF).mono ?_
       rintro e w5 ⟨v5, u5, rfl, o5, b5⟩
       have s5 := (unhide SA).below b5
       have m5 := (unhide HMA).new (b5.mono hsza) (by omega)
       have z5 := m5.size
       obtain ⟨av, cv, au, cu, rfl, rfl, _, _⟩ := o5.form
       rw [HXN.out]
       obtain ⟨ES, hES⟩ : ∃ ES, ES = edgesT n T' n := ⟨_, rfl⟩
       rw [← hES] at o5
       rw [← hES]
       have o5v := o5.1
       have o5u := o5.2
       rw [HXN.out] at o5v
       obtain ⟨W6, hW6⟩ : ∃ W6, W6 = w5.alloc (.cells #[.slice av n cv, .slice au ES.length cu] 27) := ⟨_, rfl⟩
       have b6 : Below w5.heap.size w5 W6 := by rw [hW6]; exact (Below.refl _ _).alloc (Nat.le_refl _) _
       have k6 : Blk W6 w5.heap.size 27 #[.slice av n cv, .slice au ES.length cu] := by rw [hW6]; exact Blk.new _ _ _ rfl
       have kz6 : Blk W6 w.heap.size 27 #[.slice none 0 0, .slice none 0 0] := ((unhide KZ).kp (m5.kp (.inr (by omega)) (by omega))).below b6 (by omega)
       have s6 := s5.below b6
       have m6 := m5.new (b6.mono z5) (by omega)
       have z6 := m6.size
       have z56 := b6.size
       have hk6 := k6.lt
       have OV := hide o5v
       have OU := hide o5u
       have KP6 := hide (show Kp w5 W6 wa.heap.size w5.heap.size from Kp.below b6 (Nat.le_refl _))
       have S6 := hide s6
       have M6 := hide ((Mk.alloc b0 (by omega) : Mk w W0 g (g + 1)).trans m6)
       have HW6 := Lib.hid hW6
       have f0 := k6.cell 0
       have f1 := k6.cell 1
       have f2 := kz6.cell 0
       have f3 := kz6.cell 1
       have g0 := k6.frozen 0
       have g1 := k6.frozen 1
       have g2 := kz6.frozen 0
       have g3 := kz6.frozen 1
       have hel : ES.length ≤ 1073741824 := o5u.len
       have hdd : ¬ w.heap.size = w5.heap.size := by omega
       have hdd2 : ¬ w5.heap.size = w.heap.size := by omega
       clear hES o5 hW6 o5v o5u
       go_upto_region 26 with fail
       rw [← HW6.out]
       by_cases h512 : 512 < ES.length
       · have e1 : (512 : Int) < (ES.length : Int) := by omega
         rcases (unhide OU).slice_form with ⟨_, he0⟩ | ⟨ge, ce, he, hge, _⟩
         · exfalso; rw [he0] at h512; simp at h512
         injection he with he1 he2 he3
         subst he1
         subst he3
         clear he2
         have hcap : ES.length ≤ cu := (unhide OU).cap
         have hc512 : 512 ≤ cu := by omega
         have htl : (ES.take 512).length = 512 := by rw [List.length_take]; omega
         have HTL := Lib.hid htl
         clear h512 htl
         go_wp2_with fail
         refine bodyPost_ret (results_cell_row rfl _ _ w.heap.size 27 #[.slice av n cv, .slice (some ⟨ge, 0, none⟩) 512 cu] (0, 0) _ rfl (((((kz6.far (p := ⟨w5.heap.size, 1, none⟩) hdd _)).set_ 0 _).set_ 1 _)) Tryz.underlying27 rfl (by kernel_rfl)) rfl ?_
         have KPF := ((unhide KP6).setCell (p := ⟨w5.heap.size, 1, none⟩) (.inr (Nat.le_refl _)) (.slice (some ⟨ge, 0, none⟩) 512 cu)).setCell (p := ⟨w.heap.size, 0, none⟩) (.inl (by show w.heap.size < wa.heap.size; omega)) (.slice av n cv) |>.setCell (p := ⟨w.heap.size, 1, none⟩) (.inl (by show w.heap.size < wa.heap.size; omega)) (.slice (some ⟨ge, 0, none⟩) 512 cu)
         refine ⟨_, _, xs, ES.take 512, rfl, ⟨((unhide OV).toH.kp KPF).1.mono (by omega), (((unhide OU).take (m := 512) (by omega)).toH.kp KPF).1.mono (by omega)⟩, HXN.out, by rw [HTL.out]; omega, ?_, ?_⟩
         · exact (unhide S6).kp ((((Kp.setC1 _ _ _ _).sub (Nat.le_refl _) (by omega)).trans ((Kp.setC1 _ _ _ _).sub (Nat.le_refl _) (by omega))).trans ((Kp.setC1 _ _ _ _).sub (Nat.le_refl _) (by omega)))
         · exact (((unhide M6).own (grownBy_setC _ _ _ _) (by omega) (by omega)).own (grownBy_setC _ _ _ _) (Nat.le_refl _) (by omega)).own (grownBy_setC _ _ _ _) (Nat.le_refl _) (by omega)
       · have e1 : ¬ (512 : Int) < (ES.length : Int) := by omega
         go_wp2_with fail
         refine bodyPost_ret (results_cell_row rfl _ _ w.heap.size 27 #[.slice av n cv, .slice au ES.length cu] (0, 0) _ rfl ((kz6.set_ 0 _).set_ 1 _) Tryz.underlying27 rfl (by kernel_rfl)) rfl ?_
         have KPF := ((unhide KP6).setCell (p := ⟨w.heap.size, 0, none⟩) (.inl (by show w.heap.size < wa.heap.size; omega)) (.slice av n cv)).setCell (p := ⟨w.heap.size, 1, none⟩) (.inl (by show w.heap.size < wa.heap.size; omega)) (.slice au ES.length cu)
         refine ⟨_, _, xs, ES, rfl, ⟨((unhide OV).toH.kp KPF).1.mono (by omega), ((unhide OU).toH.kp KPF).1.mono (by omega)⟩, HXN.out, by omega, ?_, ?_⟩
         · exact (unhide S6).kp (((Kp.setC1 _ _ _ _).sub (Nat.le_refl _) (by omega)).trans ((Kp.setC1 _ _ _ _).sub (Nat.le_refl _) (by omega)))
         · exact ((unhide M6).own (grownBy_setC _ _ _ _) (Nat.le_refl _) (by omega)).own (grownBy_setC _ _ _ _) (Nat.le_refl _) (by omega)
end Go.Proofs.YtgfcbmflnldicaaGreat
namespace Go.Proofs.YtgfcbmflnldicaaGreat
open Go.RowKit
structure DS (w : World) (s B gt : Nat) (wZ : World) (T : Nat) (v u : Value) (xs : List Int) (es : List (Int × Int)) : Prop where
 hs : s < w.heap.size
 hB : w.heap.size < B
 hg : w.heap.size < gt
 kz : Blk wZ w.heap.size 27 #[.slice none 0 0, .slice none 0 0]
 k : Blk wZ gt 27 #[v, u]
 o : Own wZ B v xs
 e : OwnE wZ B u es
 src : Src wZ s T
 m : Mk w wZ s (s + 1)
section
variable {w wZ wY : World} {s B gt T T' : Nat} {v u v' u' : Value} {xs : List Int} {es : List (Int × Int)}
theorem DS.mk' (h : DS w s B gt wZ T v u xs es) (hm : Mk wZ wY s (s + 1)) (hs : Src wY s T') : DS w s B gt wY T' v u xs es := by
 have h1 := h.hs
 have h2 := h.hB
 have h3 := h.hg
 have k := h.k.lt
 have kz := h.kz.lt
 exact ⟨h.hs, h.hB, h.hg, h.kz.kp (hm.kp (.inr (by omega)) (by omega)), h.k.kp (hm.kp (.inr (by omega)) (by omega)), h.o.mk hm (by omega), h.e.mk hm (by omega), hs, h.m.trans hm⟩
theorem DS.below (h : DS w s B gt wZ T v u xs es) (hb : Below wZ.heap.size wZ wY) : DS w s B gt wY T v u xs es := by
 have z := h.m.size
 exact ⟨h.hs, h.hB, h.hg, h.kz.below hb h.kz.lt, h.k.below hb h.k.lt, h.o.below hb (Nat.le_refl _), h.e.below hb (Nat.le_refl _), h.src.below hb, h.m.new (hb.mono z) (by have := h.hs; omega)⟩
theorem src_grow {g : Nat} (h : Src wZ g T) {row : Option Nat} (hg : wZ.grownBy wY row) (hr : ∀ q, row = some q → g < q) : Src wY g T := by
 have hl := h.lt
 exact h.kp ⟨hg.size, fun c _ hc => hg.block c (by omega) (fun e => by have := hr c e.symm; omega)⟩
theorem mk_grow {lo hi : Nat} (h : Mk w wZ lo hi) {row : Option Nat} (hg : wZ.grownBy wY row) (hr : ∀ q, row = some q → w.heap.size ≤ q) (hlo : lo ≤ w.heap.size) : Mk w wY lo hi := by
 cases row with
 | none => exact ⟨h.1.grown hg (by have := h.size; omega) (fun q hq => by simp at hq), fun c hc hcw => (hg.block c (by have := h.size; omega) (by simp)).trans (h.2 c hc hcw)⟩
 | some k => exact h.own hg (hr k rfl) hlo
theorem own_ge {B q : Nat} (h : Own wZ B v xs) (e : v.ownBlock = some q) : B ≤ q := (h.lt q e).1
theorem ownE_ge {B q : Nat} (h : OwnE wZ B u es) (e : u.ownBlock = some q) : B ≤ q := (h.lt q e).1
theorem DS.pushE {w2 : World} {x : Int × Int} (h : DS w s B gt wZ T v u xs es) (hg : wZ.grownBy w2 u.ownBlock) (o2 : OwnE w2 B u' (es ++ [x])) :
    w2.cell? ⟨gt, 1, none⟩ = some u ∧ w2.frozen? ⟨gt, 1, none⟩ = false ∧ DS w s B gt (w2.setCell ⟨gt, 1, none⟩ u') T v u' xs (es ++ [x]) := by
 have h1 := h.hs
 have h2 := h.hB
 have h3 := h.hg
 have k2 := h.k.grownG hg (h.e.ne_blk h.k)
 have kz2 := h.kz.grownG hg (h.e.ne_blk h.kz)
 have o3 := h.o.grow hg (h.o.ne_edges h.e)
 have s2 := src_grow h.src hg (fun q e => by have := ownE_ge h.e e; omega)
 have m2 := mk_grow h.m hg (fun q e => by have := ownE_ge h.e e; omega) (by omega)
 have gs := grownBy_setC w2 gt 1 u'
 refine ⟨k2.cell 1, k2.frozen 1, h.hs, h.hB, h.hg, kz2.far (by show w.heap.size ≠ gt; omega) _, k2.set_ 1 u', o3.grow gs (neO (o3.ne_blk k2)), ?_, src_grow s2 gs (fun q e => by injection e with e; omega), mk_grow m2 gs (fun q e => by injection e with e; omega) (by omega)⟩
 exact o2.grow gs (neO (o2.ne_blk k2))
theorem DS.pushC {w2 : World} {x : Int} (h : DS w s B gt wZ T v u xs es) (hg : wZ.grownBy w2 v.ownBlock) (o2 : Own w2 B v' (xs ++ [x])) :
    w2.cell? ⟨gt, 0, none⟩ = some v ∧ w2.frozen? ⟨gt, 0, none⟩ = false ∧ DS w s B gt (w2.setCell ⟨gt, 0, none⟩ v') T v' u (xs ++ [x]) es := by
 have h1 := h.hs
 have h2 := h.hB
 have h3 := h.hg
 have k2 := h.k.grownG hg (h.o.ne_blk h.k)
 have kz2 := h.kz.grownG hg (h.o.ne_blk h.kz)
 have e3 := h.e.grow hg (h.e.ne_ints h.o)
 have s2 := src_grow h.src hg (fun q e => by have := own_ge h.o e; omega)
 have m2 := mk_grow h.m hg (fun q e => by have := own_ge h.o e; omega) (by omega)
 have gs := grownBy_setC w2 gt 0 v'
 exact ⟨k2.cell 0, k2.frozen 0, h.hs, h.hB, h.hg, kz2.far (by show w.heap.size ≠ gt; omega) _, k2.set_ 0 v', o2.grow gs (neO (o2.ne_blk k2)), e3.grow gs (neO (e3.ne_blk k2)), src_grow s2 gs (fun q e => by injection e with e; omega), mk_grow m2 gs (fun q e => by injection e with e; omega) (by omega)⟩
theorem DS.col {g3 n c : Nat} (h : DS w s B gt wZ T (.slice (some ⟨g3, 0, none⟩) n c) u xs es) (j : Nat) (x : Int) : DS w s B gt (wZ.setCell ⟨g3, j, none⟩ (.int .i64 x)) T (.slice (some ⟨g3, 0, none⟩) n c) u (xs.set j x) es := by
 have h1 := h.hs
 have h2 := h.hB
 have gs := grownBy_setC wZ g3 j (.int .i64 x)
 have hB : B ≤ g3 := own_ge h.o rfl
 exact ⟨h.hs, h.hB, h.hg, h.kz.grownG gs (h.o.ne_blk h.kz), h.k.grownG gs (h.o.ne_blk h.k), (h.o.set j x).1, h.e.grow gs (h.e.ne_ints h.o), src_grow h.src gs (fun q e => by injection e with e; omega), mk_grow h.m gs (fun q e => by injection e with e; omega) (by omega)⟩
theorem DS.edge {g3 n c : Nat} (h : DS w s B gt wZ T v (.slice (some ⟨g3, 0, none⟩) n c) xs es) {j : Nat} (hj : j < es.length) (x y : Int) : DS w s B gt ((wZ.setCell ⟨g3, j * 2, none⟩ (.int .i64 x)).setCell ⟨g3, j * 2 + 1, none⟩ (.int .i64 y)) T v (.slice (some ⟨g3, 0, none⟩) n c) xs (es.set j (x, y)) := by
 have h1 := h.hs
 have h2 := h.hB
 obtain ⟨o2, gs⟩ := h.e.set2 hj x y
 have hB : B ≤ g3 := ownE_ge h.e rfl
 exact ⟨h.hs, h.hB, h.hg, h.kz.grownG gs (h.e.ne_blk h.kz), h.k.grownG gs (h.e.ne_blk h.k), h.o.grow gs (h.o.ne_edges h.e), o2, src_grow h.src gs (fun q e => by injection e with e; omega), mk_grow h.m gs (fun q e => by injection e with e; omega) (by omega)⟩
theorem DS.fin (h : DS w s B gt wZ T v u xs es) (hx : xs.length ≤ 70) (he : es.length ≤ 1000) : GrD w s T (.returned (.agg #[v, u])) ((wZ.setCell ⟨w.heap.size, 0, none⟩ v).setCell ⟨w.heap.size, 1, none⟩ u) := by
 have h1 := h.hs
 have h2 := h.hB
 have g0 := grownBy_setC wZ w.heap.size 0 v
 have g1 := grownBy_setC (wZ.setCell ⟨w.heap.size, 0, none⟩ v) w.heap.size 1 u
 have og : OwnG2 wZ B v u xs es := ⟨h.o, h.e⟩
 exact ⟨v, u, xs, es, rfl, ((og.storeBelow (p := ⟨w.heap.size, 0, none⟩) h2 _).storeBelow (p := ⟨w.heap.size, 1, none⟩) h2 _).mono (by omega), hx, he, src_grow (src_grow h.src g0 (fun q e => by injection e with e; omega)) g1 (fun q e => by injection e with e; omega), mk_grow (mk_grow h.m g0 (fun q e => by injection e with e; omega) (by omega)) g1 (fun q e => by injection e with e; omega) (by omega)⟩
end
end Go.Proofs.YtgfcbmflnldicaaGreat
namespace Go.Proofs.YtgfcbmflnldicaaGreat
open Go.RowKit
attribute [local go_sem ↓] Go.wp_at_zero Go.wp_at_succ
theorem DS.mono {w wZ : World} {s B gt T T' : Nat} {v u : Value} {xs : List Int} {es : List (Int × Int)} (h : DS w s B gt wZ T v u xs es) (hT : T ≤ T') : DS w s B gt wZ T' v u xs es := ⟨h.hs, h.hB, h.hg, h.kz, h.k, h.o, h.e, h.src.mono hT, h.m⟩
theorem among4 {i : Nat} (h : i < [16, 24, 40, (64 : Int)].length) : ∃ N : Nat, nth [16, 24, 40, 64] i = (N : Int) ∧ N ≤ 64 := by
 have h4 : i < 4 := h
 match i, h4 with
 | 0, _ => exact ⟨16, rfl, by omega⟩
 | 1, _ => exact ⟨24, rfl, by omega⟩
 | 2, _ => exact ⟨40, rfl, by omega⟩
 | 3, _ => exact ⟨64, rfl, by omega⟩
def lenC (w : World) (gt : Nat) : Nat := match w.cell? ⟨gt, 0, none⟩ with | some (.slice _ n _) => n | _ => 0
theorem l21Draw_any (s T : Nat) (w : World) (h : Src w s T) (hT : T ≤ 100000) :
    Calls Tryz.prog 47 #[.pointer (some ⟨s, 0, none⟩)] w (GrD w s (T + 20000)) := by
 obtain ⟨W0, hW0⟩ : ∃ W0, W0 = w.alloc (.cells #[.slice none 0 0, .slice none 0 0] 27) := ⟨_, rfl⟩
 have b0 : Below w.heap.size w W0 := by rw [hW0]; exact (Below.refl _ _).alloc (Nat.le_refl _) _
 have k0 : Blk W0 w.heap.size 27 #[.slice none 0 0, .slice none 0 0] := by rw [hW0]; exact Blk.new _ _ _ rfl
 have zz0 : w.heap.size < W0.heap.size := k0.lt
 have hlt := h.lt
 have HS0 := hide (h.below b0)
 have KZ := hide k0
 have HW := Lib.hid hW0
 clear hW0 h
 go_enter Tryz.func47, Tryz.ntmps47
 go_upto_region 1 with fail
 rw [← HW.out]
 go_wp2_with fail
 refine (pick_any s T 9 W0 (unhide HS0) (by omega)).mono ?_
 rintro e w1 ⟨N, rfl, hN, _, s1, m1⟩
 have hN64 : N ≤ 64 := by omega
 clear hN
 go_wp2_with fail
 refine (one_any s (T + 2) 6 w1 s1 (by omega)).mono ?_
 rintro e w2 ⟨bb, rfl, s2, m2⟩
 have m02 := m1.trans m2
 have zz2 := m02.size
 cases bb with
 | false =>
  have sA : Src w2 s (T + 6) := s2.mono (by omega)
  have mA := m02
  rename World => wA
  clear s1 s2 m1 m2 m02
  go_wp2_with fail
  refine (l21DrawSize_any s (T + 6) N wA sA hN64 (by omega)).mono ?_
  rintro e wB ⟨v, u, xs, es, rfl, oG, hxl, hel, sB, mB⟩
  obtain ⟨av, cv, au, cu, rfl, rfl, _, _⟩ := oG.form
  obtain ⟨W4, hW4⟩ : ∃ z, z = wB.alloc (.cells #[.slice av xs.length cv, .slice au es.length cu] 27) := ⟨_, rfl⟩
  have b4 : Below wB.heap.size wB W4 := by rw [hW4]; exact (Below.refl _ _).alloc (Nat.le_refl _) _
  have k4 : Blk W4 wB.heap.size 27 #[.slice av xs.length cv, .slice au es.length cu] := by rw [hW4]; exact Blk.new _ _ _ rfl
  have zB := mB.size
  have mAB := mA.trans mB
  have kz4 := ((unhide KZ).kp (mAB.kp (.inr (by omega)) (by omega))).below b4 (by omega)
  have D4 := hide (show DS w s wA.heap.size wB.heap.size W4 (T + 6 + 10000) (.slice av xs.length cv) (.slice au es.length cu) xs es from ⟨by omega, by omega, by omega, kz4, k4, oG.1.below b4 (Nat.le_refl _), oG.2.below b4 (Nat.le_refl _), sB.below b4, ((Mk.alloc b0 (by omega) : Mk w W0 s (s + 1)).trans mAB).new (b4.mono (by omega)) (by omega)⟩)
  have HXL := Lib.hid hxl
  have HW4 := Lib.hid hW4
  obtain ⟨gt, hgt⟩ : ∃ gt, gt = wB.heap.size := ⟨_, rfl⟩
  obtain ⟨B, hBB⟩ : ∃ B, B = wA.heap.size := ⟨_, rfl⟩
  rw [← hgt, ← hBB] at D4
  have HGT := Lib.hid hgt
  have hBgt : B ≤ gt := by omega
  clear b4 k4 kz4 oG sB mB mAB hxl hW4 sA mA hBB
  go_upto_region 5 with fail
  rw [← HW4.out, ← HGT.out]
  clear hgt
  go_wp2_with fail
  refine (pick_any s (T + 6 + 10000) 12 W4 (unhide D4).src (by omega)).mono ?_
  rintro e wC ⟨q, rfl, hq, _, sC, mC⟩
  have DC := hide ((unhide D4).mk' mC sC)
  have hqs : q = 0 ∨ q = 1 ∨ q = 2 ∨ q = 3 ∨ 3 < q := by omega
  clear D4 hq sC mC
  rcases hqs with hqk | hqk | hqk | hqk | hqk
  · skip
    have q0 : ((q : Int) == 0) = true := by rw [hqk]; rfl
    clear hqk
    obtain ⟨N1, hN1⟩ : ∃ N1 : Int, N1 = (N : Int) + 1 := ⟨_, rfl⟩
    have hw1 : IntKind.i64.wrap ((N : Int) + 1) = N1 := by rw [hN1]; exact IntWalk.i64_in _ (by omega)
    obtain ⟨N2, hN2⟩ : ∃ N2 : Int, N2 = (N : Int) + 2 := ⟨_, rfl⟩
    have hw2 : IntKind.i64.wrap ((N : Int) + 2) = N2 := by rw [hN2]; exact IntWalk.i64_in _ (by omega)
    clear hN1 hN2
    go_wp2_with fail
    refine (pick_any s (T + 6 + 10000 + 2) N1 wC (unhide DC).src (by omega)).mono ?_
    rintro e wD ⟨y, rfl, _, hy65, sD, mD⟩
    have DD := hide ((unhide DC).mk' mD sD)
    clear sD mD
    go_wp2_with fail
    refine (pick_any s (T + 6 + 10000 + 2 + 2) N2 wD (unhide DD).src (by omega)).mono ?_
    rintro e wE ⟨z, rfl, _, hz65, sE, mE⟩
    have DE := hide ((unhide DD).mk' mE sE)
    obtain ⟨zb, hzb⟩ : ∃ zb : Int, zb = (z : Int) - 1 := ⟨_, rfl⟩
    have hw3 : IntKind.i64.wrap ((z : Int) - 1) = zb := by rw [hzb]; exact IntWalk.i64_in _ (by omega)
    obtain ⟨WF, hWF⟩ : ∃ z, z = wE.alloc (.cells #[.int .i64 (y : Int), .int .i64 zb] 142) := ⟨_, rfl⟩
    have bF : Below wE.heap.size wE WF := by rw [hWF]; exact (Below.refl _ _).alloc (Nat.le_refl _) _
    have kF : Blk WF wE.heap.size 142 #[.int .i64 (y : Int), .int .i64 zb] := by rw [hWF]; exact Blk.new _ _ _ rfl
    have DF := hide ((unhide DE).below bF)
    have c0 := kF.cell 0
    have c1 := kF.cell 1
    have HWF := Lib.hid hWF
    have hBF : B ≤ WF.heap.size := by have := (unhide DF).k.lt; omega
    have hel1 : es.length + 1 ≤ 1073741824 := by omega
    have kE := (unhide DE).k
    have f1 := kE.cell 1
    clear sE mE hzb hWF kF bF kE
    go_wp2_with (first | (rw [← HWF.out]; at_builtin; refine wpList_append_edge rfl (.tmp 32) (.tmp 36) rfl rfl (unhide DF).e ((y : Int), zb) wE.heap.size rfl c0 c1 hBF hel1 ?_; intro v5 w5 o5 g5 _; obtain ⟨a5, c5, rfl⟩ := o5.slice_val; rw [show (es ++ [((y : Int), zb)]).length = es.length + 1 by simp] at o5 ⊢; have P5 := (unhide DF).pushE g5 o5; have t1 := P5.1; have t2 := P5.2.1; have D5 := hide P5.2.2; clear P5 o5 g5; have k9 := (unhide D5).k; have kz9 := (unhide D5).kz; have f0 := k9.cell 0; have f1 := k9.cell 1; have p0 := k9.frozen 0; have p1 := k9.frozen 1; have z0 := kz9.cell 0; have z1 := kz9.cell 1; have y0 := kz9.frozen 0; have y1 := kz9.frozen 1) | fail)
    refine bodyPost_ret (results_cell_row rfl _ _ w.heap.size 27 #[.slice av xs.length cv, .slice a5 (es.length + 1) c5] (0, 0) _ rfl (((unhide D5).kz.set_ 0 _).set_ 1 _) Tryz.underlying27 rfl (by kernel_rfl)) rfl ?_
    exact ((unhide D5).mono (by omega)).fin (by rw [HXL.out]; omega) (by simp; omega)
  · skip
    have q0 : ((q : Int) == 0) = false := by rw [hqk]; rfl
    have q1 : ((q : Int) == 1) = true := by rw [hqk]; rfl
    clear hqk
    by_cases hN0 : 0 < N
    · have g1 : (0 : Int) < (N : Int) := by omega
      rcases (unhide DC).o.slice_form with ⟨_, e0⟩ | ⟨g3, c3, hv3, hg3, _⟩
      · exfalso; have := HXL.out; rw [e0] at this; simp at this; omega
      injection hv3 with hv1 hv2 hv3
      subst hv1
      subst hv3
      clear hv2
      go_wp2_with fail
      refine (pick_any s (T + 6 + 10000 + 2) N wC (unhide DC).src (by omega)).mono ?_
      rintro e wD ⟨y, rfl, hy, _, sD, mD⟩
      have hyN : y < xs.length := by have := HXL.out; omega
      have DD := hide ((unhide DC).mk' mD sD)
      clear sD mD hy
      have BX := hide (show ∀ W T', DS w s B gt W T' (.slice (some ⟨g3, 0, none⟩) xs.length cv) (.slice au es.length cu) xs es → W.cell? ⟨gt, 0, none⟩ = some (.slice (some ⟨g3, 0, none⟩) xs.length cv) from fun W T' h => h.k.cell 0)
      have DDr := hide ((unhide DD).below (Below.refl wD.heap.size wD).drew)
      go_upto_region 13 with fail
      refine wp_region_noPanic ?_
      refine wp_region_until (S := (fun W => W.cell? ⟨gt, 0, none⟩ = some (.slice (some ⟨g3, 0, none⟩) xs.length cv))) 7 [(0, 0), (0, 1), (0, 2), (0, 3), (1, 4), (1, 5), (0, 6), (2, 7)] (by kernel_rfl) (by kernel_rfl) (by kernel_rfl) rfl (fun _ _ _ _ _ h => h) ?_ (fun hHeld => ?_)
      · exact (unhide BX) _ _ (unhide DDr)
      refine SeqU.take (by rfl) (v := ?hv1) (by rfl) ?hy1 ?hr1
      case hy1 =>
       intro w hSw
       try dsimp only at hSw
       go_simp
       try (with_reducible rfl)
      try simp only [Act.put, List.setIfInBounds_toArray, List.set_cons_zero, List.set_cons_succ]
      refine SeqU.take (by rfl) (v := ?hv2) (by rfl) ?hy2 ?hr2
      case hy2 =>
       intro w hSw
       try dsimp only at hSw
       go_simp
       try (with_reducible rfl)
      try simp only [Act.put, List.setIfInBounds_toArray, List.set_cons_zero, List.set_cons_succ]
      refine SeqU.take (by rfl) (v := ?hv3) (by rfl) ?hy3 ?hr3
      case hy3 =>
       intro w hSw
       try dsimp only at hSw
       go_simp
       try (with_reducible rfl)
      try simp only [Act.put, List.setIfInBounds_toArray, List.set_cons_zero, List.set_cons_succ]
      refine SeqU.take (by rfl) (v := ?hv4) (by rfl) ?hy4 ?hr4
      case hy4 =>
       intro w hSw
       try dsimp only at hSw
       go_simp
       try (with_reducible rfl)
      try simp only [Act.put, List.setIfInBounds_toArray, List.set_cons_zero, List.set_cons_succ]
      refine SeqU.call (by rfl) (fun K hK => ?_)
      go_simp
      skip
      refine hK.out _ _ ?_ (fun hHeld => ?_)
      · exact (unhide BX) _ _ ((unhide DDr).below ((Below.refl _ _).alloc (Nat.le_refl _) _))
      clear hK K
      try simp only [Act.put, List.setIfInBounds_toArray, List.set_cons_zero, List.set_cons_succ]
      refine SeqU.call (by rfl) (fun K hK => ?_)
      go_simp
      refine (among_new s (T + 6 + 10000 + 2 + 2) [-1, 63, 64] wD.drew (unhide DDr).src (by omega) (by decide) (by decide) rfl rfl).mono ?_
      rintro e w6 ⟨i6, hi6, rfl, s6, m6⟩
      have D6a := hide ((unhide DDr).mk' m6 s6)
      obtain ⟨x6, hx6⟩ : ∃ x6, x6 = nth [-1, 63, 64] i6 := ⟨_, rfl⟩
      rw [← hx6]
      have D6 := hide ((unhide D6a).col y x6)
      have cy := (unhide D6a).o.cell (j := y) hyN
      have py := (unhide D6a).o.frozen y
      obtain ⟨zy, hzy⟩ : ∃ zy, zy = nth xs y := ⟨_, rfl⟩
      rw [← hzy] at cy
      clear hx6 s6 m6 hi6 hzy
      have k9 := (unhide D6).k
      have kz9 := (unhide D6).kz
      have f0 := k9.cell 0
      have f1 := k9.cell 1
      have p0 := k9.frozen 0
      have p1 := k9.frozen 1
      have z0 := kz9.cell 0
      have z1 := kz9.cell 1
      have y0 := kz9.frozen 0
      have y1 := kz9.frozen 1
      refine hK.out _ _ ?_ (fun hHeld => ?_)
      · exact (unhide BX) _ _ (unhide D6a)
      clear hK K
      try simp only [Act.put, List.setIfInBounds_toArray, List.set_cons_zero, List.set_cons_succ]
      refine SeqU.take (by rfl) (v := ?hv5) (by rfl) ?hy5 ?hr5
      case hy5 =>
       intro w hSw
       try dsimp only at hSw
       go_simp
       try (with_reducible rfl)
      try simp only [Act.put, List.setIfInBounds_toArray, List.set_cons_zero, List.set_cons_succ]
      refine SeqU.last (by rfl) (fun K hK => ?_)
      go_simp
      skip
      refine hK.out _ _ ?_
      clear hK K
      try simp only [Act.put, List.setIfInBounds_toArray, List.set_cons_zero, List.set_cons_succ]
      refine SeqU.done (NoPanic.normal ?_)
      go_wp2_with fail
      refine bodyPost_ret (results_cell_row rfl _ _ w.heap.size 27 #[.slice (some ⟨g3, 0, none⟩) xs.length cv, .slice au es.length cu] (0, 0) _ rfl (((unhide D6).kz.set_ 0 _).set_ 1 _) Tryz.underlying27 rfl (by kernel_rfl)) rfl ?_
      exact ((unhide D6).mono (by omega)).fin (by rw [List.length_set, HXL.out]; omega) (by omega)
    · have g1 : ¬ (0 : Int) < (N : Int) := by omega
      have k9 := (unhide DC).k
      have kz9 := (unhide DC).kz
      have f0 := k9.cell 0
      have f1 := k9.cell 1
      have p0 := k9.frozen 0
      have p1 := k9.frozen 1
      have z0 := kz9.cell 0
      have z1 := kz9.cell 1
      have y0 := kz9.frozen 0
      have y1 := kz9.frozen 1
      go_wp2_with fail
      refine bodyPost_ret (results_cell_row rfl _ _ w.heap.size 27 #[.slice av xs.length cv, .slice au es.length cu] (0, 0) _ rfl (((unhide DC).kz.set_ 0 _).set_ 1 _) Tryz.underlying27 rfl (by kernel_rfl)) rfl ?_
      exact ((unhide DC).mono (by omega)).fin (by rw [HXL.out]; omega) (by omega)
  · skip
    have q0 : ((q : Int) == 0) = false := by rw [hqk]; rfl
    have q1 : ((q : Int) == 1) = false := by rw [hqk]; rfl
    have q2 : ((q : Int) == 2) = true := by rw [hqk]; rfl
    clear hqk
    by_cases hE2 : 1 < es.length
    · have g1 : (1 : Int) < (es.length : Int) := by omega
      rcases (unhide DC).e.slice_form with ⟨_, e0⟩ | ⟨g3, c3, hv3, hg3, _⟩
      · exfalso; rw [e0] at hE2; simp at hE2
      injection hv3 with hv1 hv2 hv3
      subst hv1
      subst hv3
      clear hv2
      obtain ⟨b7, o7, e7, _, hc7⟩ := (unhide DC).e.rd.at_ (by omega)
      injection e7 with e7
      injection e7 with e7 e8
      subst e7
      subst e8
      obtain ⟨d0, d1⟩ := hc7 0 (by omega)
      obtain ⟨d2, d3⟩ := hc7 1 hE2
      simp only [Nat.zero_add, Nat.zero_mul, Nat.one_mul] at d0 d1 d2 d3
      obtain ⟨x1, hx1⟩ : ∃ x, x = (nthE es 1).1 := ⟨_, rfl⟩
      obtain ⟨y1', hy1⟩ : ∃ x, x = (nthE es 1).2 := ⟨_, rfl⟩
      obtain ⟨x0, hx0⟩ : ∃ x, x = (nthE es 0).1 := ⟨_, rfl⟩
      obtain ⟨y0', hy0⟩ : ∃ x, x = (nthE es 0).2 := ⟨_, rfl⟩
      rw [← hx1] at d2
      rw [← hy1] at d3
      rw [← hx0] at d0
      rw [← hy0] at d1
      have fr0 := (unhide DC).e.frozen 0
      have fr1 := (unhide DC).e.frozen 1
      have hE0 : 0 < es.length := by omega
      have DDr := hide ((unhide DC).below (Below.refl wC.heap.size wC).drew)
      have D6' := (unhide DDr).edge (j := 0) hE0 x1 y1'
      simp only [Nat.zero_mul, Nat.zero_add] at D6'
      have D6r := hide D6'
      clear D6'
      have D6n' := (unhide DC).edge (j := 0) hE0 x1 y1'
      simp only [Nat.zero_mul, Nat.zero_add] at D6n'
      have D6n := hide D6n'
      clear D6n'
      have kC := (unhide DC).k
      have f1 := kC.cell 1
      clear hc7 hx1 hy1 hx0 hy0 kC
      go_upto_region 16 with fail
      refine wp_region_noPanic ?_
      refine wp_region_until (S := (fun W => W.cell? ⟨gt, 1, none⟩ = some (.slice (some ⟨g3, 0, none⟩) es.length cu) ∧ W.cell? ⟨g3, 2, none⟩ = some (.int .i64 x1) ∧ W.cell? ⟨g3, 3, none⟩ = some (.int .i64 y1'))) 7 [(0, 0), (0, 1), (0, 2), (0, 3), (0, 4), (0, 5), (0, 6), (2, 7)] (by kernel_rfl) (by kernel_rfl) (by kernel_rfl) rfl (fun _ _ _ _ _ h => h) ?_ (fun hHeld => ?_)
      · exact ⟨f1, d2, d3⟩
      refine SeqU.take (by rfl) (v := ?hv6) (by rfl) ?hy6 ?hr6
      case hy6 =>
       intro w hSw
       try dsimp only at hSw
       go_simp
       try (with_reducible rfl)
      try simp only [Act.put, List.setIfInBounds_toArray, List.set_cons_zero, List.set_cons_succ]
      refine SeqU.take (by rfl) (v := ?hv7) (by rfl) ?hy7 ?hr7
      case hy7 =>
       intro w hSw
       try dsimp only at hSw
       go_simp
       try (with_reducible rfl)
      try simp only [Act.put, List.setIfInBounds_toArray, List.set_cons_zero, List.set_cons_succ]
      refine SeqU.take (by rfl) (v := ?hv8) (by rfl) ?hy8 ?hr8
      case hy8 =>
       intro w hSw
       try dsimp only at hSw
       go_simp
       try (with_reducible rfl)
      try simp only [Act.put, List.setIfInBounds_toArray, List.set_cons_zero, List.set_cons_succ]
      refine SeqU.take (by rfl) (v := ?hv9) (by rfl) ?hy9 ?hr9
      case hy9 =>
       intro w hSw
       try dsimp only at hSw
       go_simp
       try (with_reducible rfl)
      try simp only [Act.put, List.setIfInBounds_toArray, List.set_cons_zero, List.set_cons_succ]
      refine SeqU.take (by rfl) (v := ?hv10) (by rfl) ?hy10 ?hr10
      case hy10 =>
       intro w hSw
       try dsimp only at hSw
       go_simp
       try (with_reducible rfl)
      try simp only [Act.put, List.setIfInBounds_toArray, List.set_cons_zero, List.set_cons_succ]
      refine SeqU.take (by rfl) (v := ?hv11) (by rfl) ?hy11 ?hr11
      case hy11 =>
       intro w hSw
       try dsimp only at hSw
       go_simp
       try (with_reducible rfl)
      try simp only [Act.put, List.setIfInBounds_toArray, List.set_cons_zero, List.set_cons_succ]
      refine SeqU.take (by rfl) (v := ?hv12) (by rfl) ?hy12 ?hr12
      case hy12 =>
       intro w hSw
       try dsimp only at hSw
       go_simp
       try (with_reducible rfl)
      try simp only [Act.put, List.setIfInBounds_toArray, List.set_cons_zero, List.set_cons_succ]
      refine SeqU.last (by rfl) (fun K hK => ?_)
      go_simp
      skip
      refine hK.out _ _ ?_
      clear hK K
      try simp only [Act.put, List.setIfInBounds_toArray, List.set_cons_zero, List.set_cons_succ]
      refine SeqU.done (NoPanic.normal ?_)
      clear f1
      have k9 := (unhide D6n).k
      have kz9 := (unhide D6n).kz
      have f0 := k9.cell 0
      have f1 := k9.cell 1
      have p0 := k9.frozen 0
      have p1 := k9.frozen 1
      have z0 := kz9.cell 0
      have z1 := kz9.cell 1
      have y0 := kz9.frozen 0
      have y1 := kz9.frozen 1
      go_wp2_with fail
      refine bodyPost_ret (results_cell_row rfl _ _ w.heap.size 27 #[.slice av xs.length cv, .slice (some ⟨g3, 0, none⟩) es.length cu] (0, 0) _ rfl (((unhide D6r).kz.set_ 0 _).set_ 1 _) Tryz.underlying27 rfl (by kernel_rfl)) rfl ?_
      exact ((unhide D6r).mono (by omega)).fin (by rw [HXL.out]; omega) (by rw [List.length_set]; omega)
    · have g1 : ¬ (1 : Int) < (es.length : Int) := by omega
      have k9 := (unhide DC).k
      have kz9 := (unhide DC).kz
      have f0 := k9.cell 0
      have f1 := k9.cell 1
      have p0 := k9.frozen 0
      have p1 := k9.frozen 1
      have z0 := kz9.cell 0
      have z1 := kz9.cell 1
      have y0 := kz9.frozen 0
      have y1 := kz9.frozen 1
      go_wp2_with fail
      refine bodyPost_ret (results_cell_row rfl _ _ w.heap.size 27 #[.slice av xs.length cv, .slice au es.length cu] (0, 0) _ rfl (((unhide DC).kz.set_ 0 _).set_ 1 _) Tryz.underlying27 rfl (by kernel_rfl)) rfl ?_
      exact ((unhide DC).mono (by omega)).fin (by rw [HXL.out]; omega) (by omega)
  · skip
    have q0 : ((q : Int) == 0) = false := by rw [hqk]; rfl
    have q1 : ((q : Int) == 1) = false := by rw [hqk]; rfl
    have q2 : ((q : Int) == 2) = false := by rw [hqk]; rfl
    have q3 : ((q : Int) == 3) = true := by rw [hqk]; rfl
    clear hqk
    go_wp2_with fail
    refine (one_any s (T + 6 + 10000 + 2) 3 wC (unhide DC).src (by omega)).mono ?_
    rintro e wD ⟨b3, rfl, sD, mD⟩
    have DD := hide ((unhide DC).mk' mD sD)
    clear sD mD
    cases b3 with
    | false =>
     have k9 := (unhide DD).k
     have kz9 := (unhide DD).kz
     have f0 := k9.cell 0
     have f1 := k9.cell 1
     have p0 := k9.frozen 0
     have p1 := k9.frozen 1
     have z0 := kz9.cell 0
     have z1 := kz9.cell 1
     have y0 := kz9.frozen 0
     have y1 := kz9.frozen 1
     go_wp2_with fail
     refine bodyPost_ret (results_cell_row rfl _ _ w.heap.size 27 #[.slice av xs.length cv, .slice au es.length cu] (0, 0) _ rfl (((unhide DD).kz.set_ 0 _).set_ 1 _) Tryz.underlying27 rfl (by kernel_rfl)) rfl ?_
     exact ((unhide DD).mono (by omega)).fin (by rw [HXL.out]; omega) (by omega)
    | true =>
     have hx70 : xs.length ≤ 70 := by rw [HXL.out]; omega
     go_wp2_with fail
     go_loopw [70] (fun _ wr => ∃ (vs : List Int) (va : Option Addr) (vc : Nat), vs.length ≤ 70 ∧ Hid (DS w s B gt wr (T + 6 + 10000 + 2 + 2) (.slice va vs.length vc) (.slice au es.length cu) vs es)) (fun _ wr => 65 - lenC wr gt)
     case atStart => exact ⟨xs, av, cv, hx70, DD⟩
     case round =>
      obtain ⟨vs, va, vc, hvs, hD⟩ := hrel
      have DR := hD
      have k9 := (unhide DR).k
      have kz9 := (unhide DR).kz
      have f0 := k9.cell 0
      have f1 := k9.cell 1
      have p0 := k9.frozen 0
      have p1 := k9.frozen 1
      have z0 := kz9.cell 0
      have z1 := kz9.cell 1
      have y0 := kz9.frozen 0
      have y1 := kz9.frozen 1
      by_cases hv65 : vs.length < 65
      · have g1 : (vs.length : Int) < 65 := by omega
        have DA := hide ((unhide DR).below ((Below.refl wr.heap.size wr).alloc (Nat.le_refl _) (.cells #[.int .i64 0] 2)))
        have hlr : lenC wr gt = vs.length := by rw [lenC, f0]; rfl
        have HLR := Lib.hid hlr
        clear hD hlr k9 kz9 f1 p0 p1 z0 z1 y0 y1
        go_wp2_with (at_builtin; refine wpList_append_ints rfl (.tmp 75) (.tmp 76) rfl B _ vs [0] rfl (unhide DA).o _ 1 1 rfl rfl (Rd.one wr 0 _) (by simp; omega) (Nat.le_of_lt (Nat.lt_of_le_of_lt hBgt (unhide DA).k.lt)) ?_; intro v5 w5 o5 g5 _; obtain ⟨a5, c5, rfl⟩ := o5.slice_val; have P5 := (unhide DA).pushC g5 o5; have t1 := P5.1; have t2 := P5.2.1; have D5 := hide P5.2.2; clear P5 o5 g5)
        have hl5 : (vs ++ [(0 : Int)]).length = vs.length + 1 := by simp
        have D6 := unhide D5
        rw [hl5] at D6
        have k5 := D6.k.cell 0
        go_roundw
        case rel => exact ⟨vs ++ [0], a5, c5, by rw [hl5]; omega, hide (by rw [hl5]; first | exact D6 | simpa using D6)⟩
        case measure =>
         rw [HLR.out]
         unfold lenC
         first | rw [k5] | (simp only [← hl5]; rw [(unhide D5).k.cell 0]) | skip
         simp
         omega
      · have g1 : ¬ (vs.length : Int) < 65 := by omega
        clear hD
        go_wp2_with fail
        refine bodyPost_ret (results_cell_row rfl _ _ w.heap.size 27 #[.slice va vs.length vc, .slice au es.length cu] (0, 0) _ rfl (((unhide DR).kz.set_ 0 _).set_ 1 _) Tryz.underlying27 rfl (by kernel_rfl)) rfl ?_
        exact ((unhide DR).mono (by omega)).fin (by omega) (by omega)
  · skip
    have q0 : ((q : Int) == 0) = false := by rw [beq_eq_false_iff_ne]; omega
    have q1 : ((q : Int) == 1) = false := by rw [beq_eq_false_iff_ne]; omega
    have q2 : ((q : Int) == 2) = false := by rw [beq_eq_false_iff_ne]; omega
    have q3 : ((q : Int) == 3) = false := by rw [beq_eq_false_iff_ne]; omega
    clear hqk
    have k9 := (unhide DC).k
    have kz9 := (unhide DC).kz
    have f0 := k9.cell 0
    have f1 := k9.cell 1
    have p0 := k9.frozen 0
    have p1 := k9.frozen 1
    have z0 := kz9.cell 0
    have z1 := kz9.cell 1
    have y0 := kz9.frozen 0
    have y1 := kz9.frozen 1
    go_wp2_with fail
    refine bodyPost_ret (results_cell_row rfl _ _ w.heap.size 27 #[.slice av xs.length cv, .slice au es.length cu] (0, 0) _ rfl (((unhide DC).kz.set_ 0 _).set_ 1 _) Tryz.underlying27 rfl (by kernel_rfl)) rfl ?_
    exact ((unhide DC).mono (by omega)).fin (by rw [HXL.out]; omega) (by omega)
 | true =>
  clear hN64
  go_wp2_with fail
  refine (among_new s (T + 4) [16, 24, 40, 64] w2 s2 (by omega) (by decide) (by decide) rfl rfl).mono ?_
  rintro e wA ⟨i, hi, rfl, sA, mA2⟩
  obtain ⟨N2, hN2, hN64⟩ := among4 hi
  rw [hN2]
  have mA := m02.trans mA2
  have zzA := mA.size
  clear hN2 hi s1 s2 m1 m2 m02 mA2
  obtain ⟨N, hNN⟩ : ∃ N, N = N2 := ⟨_, rfl⟩
  subst hNN
  go_wp2_with fail
  refine (l21DrawSize_any s (T + 6) N wA sA hN64 (by omega)).mono ?_
  rintro e wB ⟨v, u, xs, es, rfl, oG, hxl, hel, sB, mB⟩
  obtain ⟨av, cv, au, cu, rfl, rfl, _, _⟩ := oG.form
  obtain ⟨W4, hW4⟩ : ∃ z, z = wB.alloc (.cells #[.slice av xs.length cv, .slice au es.length cu] 27) := ⟨_, rfl⟩
  have b4 : Below wB.heap.size wB W4 := by rw [hW4]; exact (Below.refl _ _).alloc (Nat.le_refl _) _
  have k4 : Blk W4 wB.heap.size 27 #[.slice av xs.length cv, .slice au es.length cu] := by rw [hW4]; exact Blk.new _ _ _ rfl
  have zB := mB.size
  have mAB := mA.trans mB
  have kz4 := ((unhide KZ).kp (mAB.kp (.inr (by omega)) (by omega))).below b4 (by omega)
  have D4 := hide (show DS w s wA.heap.size wB.heap.size W4 (T + 6 + 10000) (.slice av xs.length cv) (.slice au es.length cu) xs es from ⟨by omega, by omega, by omega, kz4, k4, oG.1.below b4 (Nat.le_refl _), oG.2.below b4 (Nat.le_refl _), sB.below b4, ((Mk.alloc b0 (by omega) : Mk w W0 s (s + 1)).trans mAB).new (b4.mono (by omega)) (by omega)⟩)
  have HXL := Lib.hid hxl
  have HW4 := Lib.hid hW4
  obtain ⟨gt, hgt⟩ : ∃ gt, gt = wB.heap.size := ⟨_, rfl⟩
  obtain ⟨B, hBB⟩ : ∃ B, B = wA.heap.size := ⟨_, rfl⟩
  rw [← hgt, ← hBB] at D4
  have HGT := Lib.hid hgt
  have hBgt : B ≤ gt := by omega
  clear b4 k4 kz4 oG sB mB mAB hxl hW4 sA mA hBB
  go_upto_region 5 with fail
  rw [← HW4.out, ← HGT.out]
  clear hgt
  go_wp2_with fail
  refine (pick_any s (T + 6 + 10000) 12 W4 (unhide D4).src (by omega)).mono ?_
  rintro e wC ⟨q, rfl, hq, _, sC, mC⟩
  have DC := hide ((unhide D4).mk' mC sC)
  have hqs : q = 0 ∨ q = 1 ∨ q = 2 ∨ q = 3 ∨ 3 < q := by omega
  clear D4 hq sC mC
  rcases hqs with hqk | hqk | hqk | hqk | hqk
  · skip
    have q0 : ((q : Int) == 0) = true := by rw [hqk]; rfl
    clear hqk
    obtain ⟨M1, hM1⟩ : ∃ M1 : Int, M1 = (N : Int) + 1 := ⟨_, rfl⟩
    have hw1 : IntKind.i64.wrap ((N : Int) + 1) = M1 := by rw [hM1]; exact IntWalk.i64_in _ (by omega)
    obtain ⟨M2, hM2⟩ : ∃ M2 : Int, M2 = (N : Int) + 2 := ⟨_, rfl⟩
    have hw2 : IntKind.i64.wrap ((N : Int) + 2) = M2 := by rw [hM2]; exact IntWalk.i64_in _ (by omega)
    clear hM1 hM2
    go_wp2_with fail
    refine (pick_any s (T + 6 + 10000 + 2) M1 wC (unhide DC).src (by omega)).mono ?_
    rintro e wD ⟨y, rfl, _, hy65, sD, mD⟩
    have DD := hide ((unhide DC).mk' mD sD)
    clear sD mD
    go_wp2_with fail
    refine (pick_any s (T + 6 + 10000 + 2 + 2) M2 wD (unhide DD).src (by omega)).mono ?_
    rintro e wE ⟨z, rfl, _, hz65, sE, mE⟩
    have DE := hide ((unhide DD).mk' mE sE)
    obtain ⟨zb, hzb⟩ : ∃ zb : Int, zb = (z : Int) - 1 := ⟨_, rfl⟩
    have hw3 : IntKind.i64.wrap ((z : Int) - 1) = zb := by rw [hzb]; exact IntWalk.i64_in _ (by omega)
    obtain ⟨WF, hWF⟩ : ∃ z, z = wE.alloc (.cells #[.int .i64 (y : Int), .int .i64 zb] 142) := ⟨_, rfl⟩
    have bF : Below wE.heap.size wE WF := by rw [hWF]; exact (Below.refl _ _).alloc (Nat.le_refl _) _
    have kF : Blk WF wE.heap.size 142 #[.int .i64 (y : Int), .int .i64 zb] := by rw [hWF]; exact Blk.new _ _ _ rfl
    have DF := hide ((unhide DE).below bF)
    have c0 := kF.cell 0
    have c1 := kF.cell 1
    have HWF := Lib.hid hWF
    have hBF : B ≤ WF.heap.size := by have := (unhide DF).k.lt; omega
    have hel1 : es.length + 1 ≤ 1073741824 := by omega
    have kE := (unhide DE).k
    have f1 := kE.cell 1
    clear sE mE hzb hWF kF bF kE
    go_wp2_with (first | (rw [← HWF.out]; at_builtin; refine wpList_append_edge rfl (.tmp 32) (.tmp 36) rfl rfl (unhide DF).e ((y : Int), zb) wE.heap.size rfl c0 c1 hBF hel1 ?_; intro v5 w5 o5 g5 _; obtain ⟨a5, c5, rfl⟩ := o5.slice_val; rw [show (es ++ [((y : Int), zb)]).length = es.length + 1 by simp] at o5 ⊢; have P5 := (unhide DF).pushE g5 o5; have t1 := P5.1; have t2 := P5.2.1; have D5 := hide P5.2.2; clear P5 o5 g5; have k9 := (unhide D5).k; have kz9 := (unhide D5).kz; have f0 := k9.cell 0; have f1 := k9.cell 1; have p0 := k9.frozen 0; have p1 := k9.frozen 1; have z0 := kz9.cell 0; have z1 := kz9.cell 1; have y0 := kz9.frozen 0; have y1 := kz9.frozen 1) | fail)
    refine bodyPost_ret (results_cell_row rfl _ _ w.heap.size 27 #[.slice av xs.length cv, .slice a5 (es.length + 1) c5] (0, 0) _ rfl (((unhide D5).kz.set_ 0 _).set_ 1 _) Tryz.underlying27 rfl (by kernel_rfl)) rfl ?_
    exact ((unhide D5).mono (by omega)).fin (by rw [HXL.out]; omega) (by simp; omega)
  · skip
    have q0 : ((q : Int) == 0) = false := by rw [hqk]; rfl
    have q1 : ((q : Int) == 1) = true := by rw [hqk]; rfl
    clear hqk
    by_cases hN0 : 0 < N
    · have g1 : (0 : Int) < (N : Int) := by omega
      rcases (unhide DC).o.slice_form with ⟨_, e0⟩ | ⟨g3, c3, hv3, hg3, _⟩
      · exfalso; have := HXL.out; rw [e0] at this; simp at this; omega
      injection hv3 with hv1 hv2 hv3
      subst hv1
      subst hv3
      clear hv2
      go_wp2_with fail
      refine (pick_any s (T + 6 + 10000 + 2) N wC (unhide DC).src (by omega)).mono ?_
      rintro e wD ⟨y, rfl, hy, _, sD, mD⟩
      have hyN : y < xs.length := by have := HXL.out; omega
      have DD := hide ((unhide DC).mk' mD sD)
      clear sD mD hy
      have BX := hide (show ∀ W T', DS w s B gt W T' (.slice (some ⟨g3, 0, none⟩) xs.length cv) (.slice au es.length cu) xs es → W.cell? ⟨gt, 0, none⟩ = some (.slice (some ⟨g3, 0, none⟩) xs.length cv) from fun W T' h => h.k.cell 0)
      have DDr := hide ((unhide DD).below (Below.refl wD.heap.size wD).drew)
      go_upto_region 13 with fail
      refine wp_region_noPanic ?_
      refine wp_region_until (S := (fun W => W.cell? ⟨gt, 0, none⟩ = some (.slice (some ⟨g3, 0, none⟩) xs.length cv))) 7 [(0, 0), (0, 1), (0, 2), (0, 3), (1, 4), (1, 5), (0, 6), (2, 7)] (by kernel_rfl) (by kernel_rfl) (by kernel_rfl) rfl (fun _ _ _ _ _ h => h) ?_ (fun hHeld => ?_)
      · exact (unhide BX) _ _ (unhide DDr)
      refine SeqU.take (by rfl) (v := ?hv13) (by rfl) ?hy13 ?hr13
      case hy13 =>
       intro w hSw
       try dsimp only at hSw
       go_simp
       try (with_reducible rfl)
      try simp only [Act.put, List.setIfInBounds_toArray, List.set_cons_zero, List.set_cons_succ]
      refine SeqU.take (by rfl) (v := ?hv14) (by rfl) ?hy14 ?hr14
      case hy14 =>
       intro w hSw
       try dsimp only at hSw
       go_simp
       try (with_reducible rfl)
      try simp only [Act.put, List.setIfInBounds_toArray, List.set_cons_zero, List.set_cons_succ]
      refine SeqU.take (by rfl) (v := ?hv15) (by rfl) ?hy15 ?hr15
      case hy15 =>
       intro w hSw
       try dsimp only at hSw
       go_simp
       try (with_reducible rfl)
      try simp only [Act.put, List.setIfInBounds_toArray, List.set_cons_zero, List.set_cons_succ]
      refine SeqU.take (by rfl) (v := ?hv16) (by rfl) ?hy16 ?hr16
      case hy16 =>
       intro w hSw
       try dsimp only at hSw
       go_simp
       try (with_reducible rfl)
      try simp only [Act.put, List.setIfInBounds_toArray, List.set_cons_zero, List.set_cons_succ]
      refine SeqU.call (by rfl) (fun K hK => ?_)
      go_simp
      skip
      refine hK.out _ _ ?_ (fun hHeld => ?_)
      · exact (unhide BX) _ _ ((unhide DDr).below ((Below.refl _ _).alloc (Nat.le_refl _) _))
      clear hK K
      try simp only [Act.put, List.setIfInBounds_toArray, List.set_cons_zero, List.set_cons_succ]
      refine SeqU.call (by rfl) (fun K hK => ?_)
      go_simp
      refine (among_new s (T + 6 + 10000 + 2 + 2) [-1, 63, 64] wD.drew (unhide DDr).src (by omega) (by decide) (by decide) rfl rfl).mono ?_
      rintro e w6 ⟨i6, hi6, rfl, s6, m6⟩
      have D6a := hide ((unhide DDr).mk' m6 s6)
      obtain ⟨x6, hx6⟩ : ∃ x6, x6 = nth [-1, 63, 64] i6 := ⟨_, rfl⟩
      rw [← hx6]
      have D6 := hide ((unhide D6a).col y x6)
      have cy := (unhide D6a).o.cell (j := y) hyN
      have py := (unhide D6a).o.frozen y
      obtain ⟨zy, hzy⟩ : ∃ zy, zy = nth xs y := ⟨_, rfl⟩
      rw [← hzy] at cy
      clear hx6 s6 m6 hi6 hzy
      have k9 := (unhide D6).k
      have kz9 := (unhide D6).kz
      have f0 := k9.cell 0
      have f1 := k9.cell 1
      have p0 := k9.frozen 0
      have p1 := k9.frozen 1
      have z0 := kz9.cell 0
      have z1 := kz9.cell 1
      have y0 := kz9.frozen 0
      have y1 := kz9.frozen 1
      refine hK.out _ _ ?_ (fun hHeld => ?_)
      · exact (unhide BX) _ _ (unhide D6a)
      clear hK K
      try simp only [Act.put, List.setIfInBounds_toArray, List.set_cons_zero, List.set_cons_succ]
      refine SeqU.take (by rfl) (v := ?hv17) (by rfl) ?hy17 ?hr17
      case hy17 =>
       intro w hSw
       try dsimp only at hSw
       go_simp
       try (with_reducible rfl)
      try simp only [Act.put, List.setIfInBounds_toArray, List.set_cons_zero, List.set_cons_succ]
      refine SeqU.last (by rfl) (fun K hK => ?_)
      go_simp
      skip
      refine hK.out _ _ ?_
      clear hK K
      try simp only [Act.put, List.setIfInBounds_toArray, List.set_cons_zero, List.set_cons_succ]
      refine SeqU.done (NoPanic.normal ?_)
      go_wp2_with fail
      refine bodyPost_ret (results_cell_row rfl _ _ w.heap.size 27 #[.slice (some ⟨g3, 0, none⟩) xs.length cv, .slice au es.length cu] (0, 0) _ rfl (((unhide D6).kz.set_ 0 _).set_ 1 _) Tryz.underlying27 rfl (by kernel_rfl)) rfl ?_
      exact ((unhide D6).mono (by omega)).fin (by rw [List.length_set, HXL.out]; omega) (by omega)
    · have g1 : ¬ (0 : Int) < (N : Int) := by omega
      have k9 := (unhide DC).k
      have kz9 := (unhide DC).kz
      have f0 := k9.cell 0
      have f1 := k9.cell 1
      have p0 := k9.frozen 0
      have p1 := k9.frozen 1
      have z0 := kz9.cell 0
      have z1 := kz9.cell 1
      have y0 := kz9.frozen 0
      have y1 := kz9.frozen 1
      go_wp2_with fail
      refine bodyPost_ret (results_cell_row rfl _ _ w.heap.size 27 #[.slice av xs.length cv, .slice au es.length cu] (0, 0) _ rfl (((unhide DC).kz.set_ 0 _).set_ 1 _) Tryz.underlying27 rfl (by kernel_rfl)) rfl ?_
      exact ((unhide DC).mono (by omega)).fin (by rw [HXL.out]; omega) (by omega)
  · skip
    have q0 : ((q : Int) == 0) = false := by rw [hqk]; rfl
    have q1 : ((q : Int) == 1) = false := by rw [hqk]; rfl
    have q2 : ((q : Int) == 2) = true := by rw [hqk]; rfl
    clear hqk
    by_cases hE2 : 1 < es.length
    · have g1 : (1 : Int) < (es.length : Int) := by omega
      rcases (unhide DC).e.slice_form with ⟨_, e0⟩ | ⟨g3, c3, hv3, hg3, _⟩
      · exfalso; rw [e0] at hE2; simp at hE2
      injection hv3 with hv1 hv2 hv3
      subst hv1
      subst hv3
      clear hv2
      obtain ⟨b7, o7, e7, _, hc7⟩ := (unhide DC).e.rd.at_ (by omega)
      injection e7 with e7
      injection e7 with e7 e8
      subst e7
      subst e8
      obtain ⟨d0, d1⟩ := hc7 0 (by omega)
      obtain ⟨d2, d3⟩ := hc7 1 hE2
      simp only [Nat.zero_add, Nat.zero_mul, Nat.one_mul] at d0 d1 d2 d3
      obtain ⟨x1, hx1⟩ : ∃ x, x = (nthE es 1).1 := ⟨_, rfl⟩
      obtain ⟨y1', hy1⟩ : ∃ x, x = (nthE es 1).2 := ⟨_, rfl⟩
      obtain ⟨x0, hx0⟩ : ∃ x, x = (nthE es 0).1 := ⟨_, rfl⟩
      obtain ⟨y0', hy0⟩ : ∃ x, x = (nthE es 0).2 := ⟨_, rfl⟩
      rw [← hx1] at d2
      rw [← hy1] at d3
      rw [← hx0] at d0
      rw [← hy0] at d1
      have fr0 := (unhide DC).e.frozen 0
      have fr1 := (unhide DC).e.frozen 1
      have hE0 : 0 < es.length := by omega
      have DDr := hide ((unhide DC).below (Below.refl wC.heap.size wC).drew)
      have D6' := (unhide DDr).edge (j := 0) hE0 x1 y1'
      simp only [Nat.zero_mul, Nat.zero_add] at D6'
      have D6r := hide D6'
      clear D6'
      have D6n' := (unhide DC).edge (j := 0) hE0 x1 y1'
      simp only [Nat.zero_mul, Nat.zero_add] at D6n'
      have D6n := hide D6n'
      clear D6n'
      have kC := (unhide DC).k
      have f1 := kC.cell 1
      clear hc7 hx1 hy1 hx0 hy0 kC
      go_upto_region 16 with fail
      refine wp_region_noPanic ?_
      refine wp_region_until (S := (fun W => W.cell? ⟨gt, 1, none⟩ = some (.slice (some ⟨g3, 0, none⟩) es.length cu) ∧ W.cell? ⟨g3, 2, none⟩ = some (.int .i64 x1) ∧ W.cell? ⟨g3, 3, none⟩ = some (.int .i64 y1'))) 7 [(0, 0), (0, 1), (0, 2), (0, 3), (0, 4), (0, 5), (0, 6), (2, 7)] (by kernel_rfl) (by kernel_rfl) (by kernel_rfl) rfl (fun _ _ _ _ _ h => h) ?_ (fun hHeld => ?_)
      · exact ⟨f1, d2, d3⟩
      refine SeqU.take (by rfl) (v := ?hv18) (by rfl) ?hy18 ?hr18
      case hy18 =>
       intro w hSw
       try dsimp only at hSw
       go_simp
       try (with_reducible rfl)
      try simp only [Act.put, List.setIfInBounds_toArray, List.set_cons_zero, List.set_cons_succ]
      refine SeqU.take (by rfl) (v := ?hv19) (by rfl) ?hy19 ?hr19
      case hy19 =>
       intro w hSw
       try dsimp only at hSw
       go_simp
       try (with_reducible rfl)
      try simp only [Act.put, List.setIfInBounds_toArray, List.set_cons_zero, List.set_cons_succ]
      refine SeqU.take (by rfl) (v := ?hv20) (by rfl) ?hy20 ?hr20
      case hy20 =>
       intro w hSw
       try dsimp only at hSw
       go_simp
       try (with_reducible rfl)
      try simp only [Act.put, List.setIfInBounds_toArray, List.set_cons_zero, List.set_cons_succ]
      refine SeqU.take (by rfl) (v := ?hv21) (by rfl) ?hy21 ?hr21
      case hy21 =>
       intro w hSw
       try dsimp only at hSw
       go_simp
       try (with_reducible rfl)
      try simp only [Act.put, List.setIfInBounds_toArray, List.set_cons_zero, List.set_cons_succ]
      refine SeqU.take (by rfl) (v := ?hv22) (by rfl) ?hy22 ?hr22
      case hy22 =>
       intro w hSw
       try dsimp only at hSw
       go_simp
       try (with_reducible rfl)
      try simp only [Act.put, List.setIfInBounds_toArray, List.set_cons_zero, List.set_cons_succ]
      refine SeqU.take (by rfl) (v := ?hv23) (by rfl) ?hy23 ?hr23
      case hy23 =>
       intro w hSw
       try dsimp only at hSw
       go_simp
       try (with_reducible rfl)
      try simp only [Act.put, List.setIfInBounds_toArray, List.set_cons_zero, List.set_cons_succ]
      refine SeqU.take (by rfl) (v := ?hv24) (by rfl) ?hy24 ?hr24
      case hy24 =>
       intro w hSw
       try dsimp only at hSw
       go_simp
       try (with_reducible rfl)
      try simp only [Act.put, List.setIfInBounds_toArray, List.set_cons_zero, List.set_cons_succ]
      refine SeqU.last (by rfl) (fun K hK => ?_)
      go_simp
      skip
      refine hK.out _ _ ?_
      clear hK K
      try simp only [Act.put, List.setIfInBounds_toArray, List.set_cons_zero, List.set_cons_succ]
      refine SeqU.done (NoPanic.normal ?_)
      clear f1
      have k9 := (unhide D6n).k
      have kz9 := (unhide D6n).kz
      have f0 := k9.cell 0
      have f1 := k9.cell 1
      have p0 := k9.frozen 0
      have p1 := k9.frozen 1
      have z0 := kz9.cell 0
      have z1 := kz9.cell 1
      have y0 := kz9.frozen 0
      have y1 := kz9.frozen 1
      go_wp2_with fail
      refine bodyPost_ret (results_cell_row rfl _ _ w.heap.size 27 #[.slice av xs.length cv, .slice (some ⟨g3, 0, none⟩) es.length cu] (0, 0) _ rfl (((unhide D6r).kz.set_ 0 _).set_ 1 _) Tryz.underlying27 rfl (by kernel_rfl)) rfl ?_
      exact ((unhide D6r).mono (by omega)).fin (by rw [HXL.out]; omega) (by rw [List.length_set]; omega)
    · have g1 : ¬ (1 : Int) < (es.length : Int) := by omega
      have k9 := (unhide DC).k
      have kz9 := (unhide DC).kz
      have f0 := k9.cell 0
      have f1 := k9.cell 1
      have p0 := k9.frozen 0
      have p1 := k9.frozen 1
      have z0 := kz9.cell 0
      have z1 := kz9.cell 1
      have y0 := kz9.frozen 0
      have y1 := kz9.frozen 1
      go_wp2_with fail
      refine bodyPost_ret (results_cell_row rfl _ _ w.heap.size 27 #[.slice av xs.length cv, .slice au es.length cu] (0, 0) _ rfl (((unhide DC).kz.set_ 0 _).set_ 1 _) Tryz.underlying27 rfl (by kernel_rfl)) rfl ?_
      exact ((unhide DC).mono (by omega)).fin (by rw [HXL.out]; omega) (by omega)
  · skip
    have q0 : ((q : Int) == 0) = false := by rw [hqk]; rfl
    have q1 : ((q : Int) == 1) = false := by rw [hqk]; rfl
    have q2 : ((q : Int) == 2) = false := by rw [hqk]; rfl
    have q3 : ((q : Int) == 3) = true := by rw [hqk]; rfl
    clear hqk
    go_wp2_with fail
    refine (one_any s (T + 6 + 10000 + 2) 3 wC (unhide DC).src (by omega)).mono ?_
    rintro e wD ⟨b3, rfl, sD, mD⟩
    have DD := hide ((unhide DC).mk' mD sD)
    clear sD mD
    cases b3 with
    | false =>
     have k9 := (unhide DD).k
     have kz9 := (unhide DD).kz
     have f0 := k9.cell 0
     have f1 := k9.cell 1
     have p0 := k9.frozen 0
     have p1 := k9.frozen 1
     have z0 := kz9.cell 0
     have z1 := kz9.cell 1
     have y0 := kz9.frozen 0
     have y1 := kz9.frozen 1
     go_wp2_with fail
     refine bodyPost_ret (results_cell_row rfl _ _ w.heap.size 27 #[.slice av xs.length cv, .slice au es.length cu] (0, 0) _ rfl (((unhide DD).kz.set_ 0 _).set_ 1 _) Tryz.underlying27 rfl (by kernel_rfl)) rfl ?_
     exact ((unhide DD).mono (by omega)).fin (by rw [HXL.out]; omega) (by omega)
    | true =>
     have hx70 : xs.length ≤ 70 := by rw [HXL.out]; omega
     go_wp2_with fail
     go_loopw [70] (fun _ wr => ∃ (vs : List Int) (va : Option Addr) (vc : Nat), vs.length ≤ 70 ∧ Hid (DS w s B gt wr (T + 6 + 10000 + 2 + 2) (.slice va vs.length vc) (.slice au es.length cu) vs es)) (fun _ wr => 65 - lenC wr gt)
     case atStart => exact ⟨xs, av, cv, hx70, DD⟩
     case round =>
      obtain ⟨vs, va, vc, hvs, hD⟩ := hrel
      have DR := hD
      have k9 := (unhide DR).k
      have kz9 := (unhide DR).kz
      have f0 := k9.cell 0
      have f1 := k9.cell 1
      have p0 := k9.frozen 0
      have p1 := k9.frozen 1
      have z0 := kz9.cell 0
      have z1 := kz9.cell 1
      have y0 := kz9.frozen 0
      have y1 := kz9.frozen 1
      by_cases hv65 : vs.length < 65
      · have g1 : (vs.length : Int) < 65 := by omega
        have DA := hide ((unhide DR).below ((Below.refl wr.heap.size wr).alloc (Nat.le_refl _) (.cells #[.int .i64 0] 2)))
        have hlr : lenC wr gt = vs.length := by rw [lenC, f0]; rfl
        have HLR := Lib.hid hlr
        clear hD hlr k9 kz9 f1 p0 p1 z0 z1 y0 y1
        go_wp2_with (at_builtin; refine wpList_append_ints rfl (.tmp 75) (.tmp 76) rfl B _ vs [0] rfl (unhide DA).o _ 1 1 rfl rfl (Rd.one wr 0 _) (by simp; omega) (Nat.le_of_lt (Nat.lt_of_le_of_lt hBgt (unhide DA).k.lt)) ?_; intro v5 w5 o5 g5 _; obtain ⟨a5, c5, rfl⟩ := o5.slice_val; have P5 := (unhide DA).pushC g5 o5; have t1 := P5.1; have t2 := P5.2.1; have D5 := hide P5.2.2; clear P5 o5 g5)
        have hl5 : (vs ++ [(0 : Int)]).length = vs.length + 1 := by simp
        have D6 := unhide D5
        rw [hl5] at D6
        have k5 := D6.k.cell 0
        go_roundw
        case rel => exact ⟨vs ++ [0], a5, c5, by rw [hl5]; omega, hide (by rw [hl5]; first | exact D6 | simpa using D6)⟩
        case measure =>
         rw [HLR.out]
         unfold lenC
         first | rw [k5] | (simp only [← hl5]; rw [(unhide D5).k.cell 0]) | skip
         simp
         omega
      · have g1 : ¬ (vs.length : Int) < 65 := by omega
        clear hD
        go_wp2_with fail
        refine bodyPost_ret (results_cell_row rfl _ _ w.heap.size 27 #[.slice va vs.length vc, .slice au es.length cu] (0, 0) _ rfl (((unhide DR).kz.set_ 0 _).set_ 1 _) Tryz.underlying27 rfl (by kernel_rfl)) rfl ?_
        exact ((unhide DR).mono (by omega)).fin (by omega) (by omega)
  · skip
    have q0 : ((q : Int) == 0) = false := by rw [beq_eq_false_iff_ne]; omega
    have q1 : ((q : Int) == 1) = false := by rw [beq_eq_false_iff_ne]; omega
    have q2 : ((q : Int) == 2) = false := by rw [beq_eq_false_iff_ne]; omega
    have q3 : ((q : Int) == 3) = false := by rw [beq_eq_false_iff_ne]; omega
    clear hqk
    have k9 := (unhide DC).k
    have kz9 := (unhide DC).kz
    have f0 := k9.cell 0
    have f1 := k9.cell 1
    have p0 := k9.frozen 0
    have p1 := k9.frozen 1
    have z0 := kz9.cell 0
    have z1 := kz9.cell 1
    have y0 := kz9.frozen 0
    have y1 := kz9.frozen 1
    go_wp2_with fail
    refine bodyPost_ret (results_cell_row rfl _ _ w.heap.size 27 #[.slice av xs.length cv, .slice au es.length cu] (0, 0) _ rfl (((unhide DC).kz.set_ 0 _).set_ 1 _) Tryz.underlying27 rfl (by kernel_rfl)) rfl ?_
    exact ((unhide DC).mono (by omega)).fin (by rw [HXL.out]; omega) (by omega)
end Go.Proofs.YtgfcbmflnldicaaGreat
namespace Go.Proofs.YtgfcbmflnldicaaGreat
open Go.RowKit
attribute [local go_sem ↓] Go.wp_at_zero Go.wp_at_succ
def CelD (w : World) (s T : Nat) (e : Ending) (w' : World) : Prop := ∃ v cs, e = .returned v ∧ Own w' w.heap.size v cs ∧ cs.length ≤ 71 ∧ Mk w w' s (s + 1) ∧ Src w' s T
theorem l21DrawCells_any (s T : Nat) (a : Option Addr) (c : Nat) (xs : List Int) (u : Value) (w : World) (h : Src w s T) (hT : T ≤ 1000000) (hl : xs.length ≤ 70) (hx : ∀ w', Mk w w' s (s + 1) → Rd w' a xs) :
    Calls Tryz.prog 48 #[.pointer (some ⟨s, 0, none⟩), .agg #[.slice a xs.length c, u]] w (CelD w s (T + 1000)) := by
 obtain ⟨W0, hW0⟩ : ∃ W0, W0 = w.alloc (.cells #[.slice a xs.length c, u] 27) := ⟨_, rfl⟩
 have b0 : Below w.heap.size w W0 := by rw [hW0]; exact (Below.refl _ _).alloc (Nat.le_refl _) _
 have k0 : Blk W0 w.heap.size 27 #[.slice a xs.length c, u] := by rw [hW0]; exact Blk.new _ _ _ rfl
 have hlt := h.lt
 have z0 := k0.lt
 have HX := hide hx
 have S0 := hide (h.below b0)
 have m0 : Mk w W0 s (s + 1) := Mk.alloc b0 (by omega)
 have BX := hide (show ∀ V, Mk W0 V s (s + 1) → V.cell? ⟨w.heap.size, 0, none⟩ = some (.slice a xs.length c) from fun V hm => (k0.kp (hm.kp (.inr (by omega)) (by omega))).cell 0)
 have HW := Lib.hid hW0
 clear hW0 h hx
 go_enter Tryz.func48, Tryz.ntmps48
 go_upto_region 1 with fail
 rw [← HW.out]
 obtain ⟨W1, hW1⟩ : ∃ W1, W1 = W0.alloc (.cells #[] 2) := ⟨_, rfl⟩
 have b1 : Below W0.heap.size W0 W1 := by rw [hW1]; exact (Below.refl _ _).alloc (Nat.le_refl _) _
 have O1 := hide (show Own W1 W0.heap.size (.slice (some ⟨W0.heap.size, 0, none⟩) 0 0) [] from by rw [hW1]; exact Own.empty W0 (Nat.le_refl _))
 have m01 : Mk W0 W1 s (s + 1) := Mk.alloc b1 (by omega)
 have HW1 := Lib.hid hW1
 clear hW1
 go_upto_region 2 with fail
 rw [← HW1.out]
 go_wp2_with fail
 refine (among_new s T [1, 1, 2, 3, 64] W1 ((unhide S0).below b1) (by omega) (by decide) (by decide) rfl rfl).mono ?_
 rintro e w2 ⟨i2, hi2, rfl, s2, m2⟩
 have m02 := m01.trans m2
 have z2 := m02.size
 have O2 := hide ((unhide O1).mk m2 (by omega))
 obtain ⟨N, hN⟩ : ∃ N, N = nth [1, 1, 2, 3, 64] i2 := ⟨_, rfl⟩
 rw [← hN]
 clear hN hi2 m01 m2 b1
 go_wp2_with fail
 go_loopw [5, 7] (fun sv iv wr => ∃ (v : Nat) (ys : List Int), iv = .int .i64 v ∧ v ≤ xs.length ∧ Hid (ys.length = v) ∧ Hid (Own wr W0.heap.size sv ys) ∧ Src wr s (T + 2 + 2 * v) ∧ Mk W0 wr s (s + 1)) (fun _ iv _ => xs.length - (intOf iv).toNat)
 case atStart => exact ⟨0, [], rfl, Nat.zero_le _, rfl, O2, s2, m02⟩
 case round =>
  obtain ⟨v, ys, rfl, hv, hyl, ho, hs, hm⟩ := hrel
  rename World => wx
  have hsz := hm.size
  have f0 := (unhide BX) wx hm
  by_cases hvn : v < xs.length
  · have HO := hide ho.out
    obtain ⟨ao, co, rfl, _, _⟩ := ho.out.form
    clear ho
    go_wp2_with fail
    refine (pick_any s (T + 2 + 2 * v) N wx hs (by omega)).mono ?_
    rintro e w3 ⟨y, rfl, _, _, s3, m3⟩
    have o3 := (unhide HO).mk m3 (by omega)
    have m03 := hm.trans m3
    have z3 := m03.size
    have HO3 := hide o3
    have HYL := hyl
    clear o3 m3 hs hm hyl f0
    go_wp2_with (at_builtin; refine wpList_append_ints rfl (.tmp 19) (.tmp 23) rfl W0.heap.size _ ys [(y : Int)] rfl ((unhide HO3).alloc _) _ 1 1 rfl rfl (Rd.one w3 y _) (by rw [HYL.out]; simp; omega) (by simp; omega) ?_; intro v5 w5 o5 g5 _)
    have b5 : Below W0.heap.size w3 w5 := Below.step ((Below.refl _ _).alloc z3 _) g5 ((unhide HO3).alloc _) (Nat.le_refl _) (by simp; omega)
    have O5 := hide o5
    clear o5 g5
    go_roundw
    case rel => exact ⟨v + 1, ys ++ [(y : Int)], by go_num, by omega, (by show (ys ++ [(y : Int)]).length = v + 1; rw [List.length_append, HYL.out]; rfl), unhide O5, (s3.keep b5 (by omega)).mono (by omega), m03.new b5 (by omega)⟩
    case measure => simp only [intOf]; omega
  · have HYN := Lib.hid (show ys.length = xs.length by have := hyl.out; omega)
    have hy70 : ys.length ≤ 70 := by have := hyl.out; omega
    obtain ⟨ao, co, rfl, _, _⟩ := ho.out.form
    have HO := hide ho.out
    have S1 := hide (hs.mono (show T + 2 + 2 * v ≤ T + 200 by omega))
    have HM := hide hm
    clear hyl ho hs hm
    go_wp2_with fail
    refine (pick_any s (T + 200) 10 wx (unhide S1) (by omega)).mono ?_
    rintro e w4 ⟨q, rfl, _, _, s4, m4⟩
    have m04 := (unhide HM).trans m4
    have z4 := m04.size
    have O4 := hide ((unhide HO).mk m4 (by omega))
    have f4 := (unhide BX) w4 m04
    have hqs : q = 0 ∨ q = 1 ∨ q = 2 ∨ 2 < q := by omega
    clear f0 HO m4
    rcases hqs with hqk | hqk | hqk | hqk
    · have q0 : ((q : Int) == 0) = true := by rw [hqk]; rfl
      clear hqk f4
      have HS4 := hide s4
      clear s4
      go_wp2_with (at_builtin; refine wpList_append_ints rfl (.tmp 29) (.tmp 30) rfl W0.heap.size _ ys [0] rfl ((unhide O4).alloc _) _ 1 1 rfl rfl (Rd.one w4 0 _) (by simp; omega) (by simp; omega) ?_; intro v5 w5 o5 g5 _)
      have b5 : Below W0.heap.size w4 w5 := Below.step ((Below.refl _ _).alloc z4 _) g5 ((unhide O4).alloc _) (Nat.le_refl _) (by simp; omega)
      go_ret
      exact ⟨v5, _, rfl, o5.mono (by omega), by rw [List.length_append]; simp; omega, m0.trans (m04.new b5 (by omega)), ((unhide HS4).keep b5 (by omega)).mono (by omega)⟩
    · have q0 : ((q : Int) == 0) = false := by rw [hqk]; rfl
      have q1 : ((q : Int) == 1) = true := by rw [hqk]; rfl
      clear hqk f4
      by_cases hy0 : 0 < ys.length
      · have g1 : (0 : Int) < (ys.length : Int) := by omega
        rcases (unhide O4).slice_form with ⟨_, e0⟩ | ⟨g3, c3, hv3, hg3, _⟩
        · exfalso; rw [e0] at hy0; simp at hy0
        injection hv3 with hv1 hv2 hv3
        subst hv1
        subst hv3
        clear hv2
        have S4 := hide s4
        have M4 := hide m04
        clear s4 m04
        go_wp2_with fail
        refine (among_new s (T + 200 + 2) [-1, 64] w4 (unhide S4) (by omega) (by decide) (by decide) rfl rfl).mono ?_
        rintro e w6 ⟨i6, hi6, rfl, s6, m6⟩
        have o6 := (unhide O4).mk m6 (by omega)
        have m06 := (unhide M4).trans m6
        have z6 := m06.size
        obtain ⟨x6, hx6⟩ : ∃ x6, x6 = nth [-1, 64] i6 := ⟨_, rfl⟩
        rw [← hx6]
        clear hx6 hi6 m6
        have hgt0 := o6.cell (j := 0) hy0
        have hfr0 := o6.frozen 0
        have O6 := hide o6
        have S6 := hide s6
        have M6 := hide m06
        clear o6 s6 m06
        go_wp2_with fail
        go_ret
        exact ⟨_, _, rfl, ((unhide O6).set 0 _).1.mono (by omega), by rw [List.length_set]; omega, m0.trans ((unhide M6).own (grownBy_setC _ g3 0 _) (by omega) (by omega)), (src_grow (unhide S6) (grownBy_setC _ g3 0 _) (fun q e => by injection e with e; omega)).mono (by omega)⟩
      · have g1 : ¬ (0 : Int) < (ys.length : Int) := by omega
        go_wp2
        go_ret
        exact ⟨_, ys, rfl, (unhide O4).mono (by omega), by omega, m0.trans m04, s4.mono (by omega)⟩
    · have q0 : ((q : Int) == 0) = false := by rw [hqk]; rfl
      have q1 : ((q : Int) == 1) = false := by rw [hqk]; rfl
      have q2 : ((q : Int) == 2) = true := by rw [hqk]; rfl
      clear hqk
      have HOW := hide (l00Own_any a c xs w4 ((unhide HX) _ (m0.trans m04)))
      have S4 := hide s4
      have M4 := hide m04
      clear s4 m04
      go_wp2_with fail
      refine (unhide HOW).mono ?_
      rintro e w5 ⟨v5, rfl, o5, b5⟩
      have O5 := hide o5
      clear o5
      go_wp2
      go_ret
      exact ⟨v5, xs, rfl, (unhide O5).mono (by omega), by omega, m0.trans ((unhide M4).new (b5.mono z4) (by omega)), ((unhide S4).below b5).mono (by omega)⟩
    · have q0 : ((q : Int) == 0) = false := by rw [beq_eq_false_iff_ne]; omega
      have q1 : ((q : Int) == 1) = false := by rw [beq_eq_false_iff_ne]; omega
      have q2 : ((q : Int) == 2) = false := by rw [beq_eq_false_iff_ne]; omega
      clear hqk
      go_wp2
      go_ret
      exact ⟨_, ys, rfl, (unhide O4).mono (by omega), by omega, m0.trans m04, s4.mono (by omega)⟩
end Go.Proofs.YtgfcbmflnldicaaGreat
namespace Go.Proofs.YtgfcbmflnldicaaGreat
open Go.RowKit
attribute [local go_sem ↓] Go.wp_at_zero Go.wp_at_succ
def DRC (w : World) (e : Ending) (w' : World) : Prop := ∃ (a : Option Addr) (c : Nat) (xs : List Int) (ra : Option Addr) (rc : Nat) (es : List (Int × Int)) (pa : Option Addr) (pc : Nat) (cs : List Int), e = .returned (.tuple #[.agg #[.slice a xs.length c, .slice ra es.length rc], .slice pa cs.length pc]) ∧ Rd w' a xs ∧ RdE w' ra es ∧ Rd w' pa cs ∧ xs.length ≤ 70 ∧ es.length ≤ 1000 ∧ cs.length ≤ 71
theorem drawRC_any (a : Option Addr) (c : Nat) (bs : List Int) (w : World) (h : RdB w a bs) :
    Calls Tryz.prog 8 #[.slice a bs.length c] w fun e w' => DRC w e w' ∧ Below w.heap.size w w' := by
 obtain ⟨W0, hW0⟩ : ∃ W0, W0 = w.alloc (.cells #[.slice none 0 0, .slice none 0 0] 27) := ⟨_, rfl⟩
 have b0 : Below w.heap.size w W0 := by rw [hW0]; exact (Below.refl _ _).alloc (Nat.le_refl _) _
 have k0 : Blk W0 w.heap.size 27 #[.slice none 0 0, .slice none 0 0] := by rw [hW0]; exact Blk.new _ _ _ rfl
 have z0 : w.heap.size < W0.heap.size := k0.lt
 have HB := hide (h.below b0)
 have HW := Lib.hid hW0
 clear hW0 h
 go_enter Tryz.func8, Tryz.ntmps8
 go_upto_region 1 with fail
 rw [← HW.out]
 go_wp2_with fail
 refine (from_any a c bs W0 (unhide HB)).mono ?_
 rintro e w1 ⟨rfl, s1, b1, z1⟩
 go_wp2_with fail
 refine (l21Draw_any W0.heap.size 0 w1 s1 (by omega)).mono ?_
 rintro e w2 ⟨v, u, xs, es, rfl, oG, hxl, hel, s2, m2⟩
 obtain ⟨av, cv, au, cu, rfl, rfl, _, _⟩ := oG.form
 obtain ⟨W4, hW4⟩ : ∃ z, z = w2.alloc (.cells #[.slice av xs.length cv, .slice au es.length cu] 27) := ⟨_, rfl⟩
 have b4 : Below w2.heap.size w2 W4 := by rw [hW4]; exact (Below.refl _ _).alloc (Nat.le_refl _) _
 have k4 : Blk W4 w2.heap.size 27 #[.slice av xs.length cv, .slice au es.length cu] := by rw [hW4]; exact Blk.new _ _ _ rfl
 have z2 := m2.size
 have z4 := k4.lt
 have m14 : Mk w1 W4 W0.heap.size (W0.heap.size + 1) := m2.new (b4.mono z2) (by omega)
 have k04 := (k0.below b1 k0.lt).kp (m14.kp (.inl (by omega)) (by omega))
 have S4 := hide ((s2.below b4).below (Below.drewn 1))
 have G4 := hide (show OwnG2 W4.drew w1.heap.size _ _ xs es from ⟨(oG.1.below b4 (Nat.le_refl _)).below (Below.drewn 1) (Nat.le_refl _), (oG.2.below b4 (Nat.le_refl _)).below (Below.drewn 1) (Nat.le_refl _)⟩)
 have K4 := hide (show Blk W4.drew _ _ _ from k4.below (Below.drewn 1) k4.lt)
 have K0 := hide (show Blk W4.drew _ _ _ from k04.below (Below.drewn 1) (by omega))
 have B4 := hide (show Below w.heap.size w W4.drew from (b0.trans ((b1.trans m14.1).mono (by omega))).trans ((show Below W4.heap.size W4 W4.drew from Below.drewn 1).mono (by omega)))
 have HW4 := Lib.hid hW4
 have zd : W4.drew.heap.size = W4.heap.size := rfl
 clear hW4 b4 k4 k04 oG s2 s1 b1 b0 m2 k0 m14
 go_upto_region 3 with fail
 rw [← HW4.out]
 refine wp_region_noPanic ?_
 refine wp_region_until (S := (fun W => W.cell? ⟨w2.heap.size, 0, none⟩ = some (.slice av xs.length cv) ∧ W.cell? ⟨w2.heap.size, 1, none⟩ = some (.slice au es.length cu))) 4 [(0, 0), (0, 1), (0, 2), (1, 3), (2, 4), (2, 5)] (by kernel_rfl) (by kernel_rfl) (by kernel_rfl) rfl (fun _ _ _ _ _ h => h) ?_ (fun hHeld => ?_)
 · exact ⟨(unhide K4).cell 0, (unhide K4).cell 1⟩
 refine SeqU.take (by rfl) (v := ?hv1) (by rfl) ?hy1 ?hr1
 case hy1 =>
  intro w hSw
  try dsimp only at hSw
  go_simp
  try (with_reducible rfl)
 try simp only [Act.put, List.setIfInBounds_toArray, List.set_cons_zero, List.set_cons_succ]
 refine SeqU.take (by rfl) (v := ?hv2) (by rfl) ?hy2 ?hr2
 case hy2 =>
  intro w hSw
  try dsimp only at hSw
  go_simp
  try (with_reducible rfl)
 try simp only [Act.put, List.setIfInBounds_toArray, List.set_cons_zero, List.set_cons_succ]
 refine SeqU.take (by rfl) (v := ?hv3) (by rfl) ?hy3 ?hr3
 case hy3 =>
  intro w hSw
  try dsimp only at hSw
  go_simp
  try (with_reducible rfl)
 try simp only [Act.put, List.setIfInBounds_toArray, List.set_cons_zero, List.set_cons_succ]
 refine SeqU.call (by rfl) (fun K hK => ?_)
 go_simp
 refine (l21DrawCells_any W0.heap.size (0 + 20000) av cv xs (.slice au es.length cu) W4.drew (unhide S4) (by omega) hxl (fun w' hm => ((unhide G4).1.mk hm (by omega)).rd)).mono ?_
 rintro e w6 ⟨vc, cs, rfl, o6, hcl, m6, _⟩
 obtain ⟨ac, cc, rfl, _, _⟩ := o6.form
 have z6 := m6.size
 have K6 := hide ((unhide K4).kp (m6.kp (.inr (by omega)) (by omega)))
 have K06 := hide ((unhide K0).kp (m6.kp (.inl (by omega)) (by omega)))
 have G6 := hide ((unhide G4).mk m6 (by omega))
 have O6 := hide o6
 have B6 := hide ((unhide B4).trans (m6.1.mono (by omega)))
 have r0 := (unhide K06).cell 0
 have r1 := (unhide K06).cell 1
 have q0 := (unhide K06).frozen 0
 have q1 := (unhide K06).frozen 1
 clear o6 m6
 refine hK.out _ _ ?_ (fun hHeld => ?_)
 · exact ⟨(unhide K6).cell 0, (unhide K6).cell 1⟩
 clear hK K
 try simp only [Act.put, List.setIfInBounds_toArray, List.set_cons_zero, List.set_cons_succ]
 refine SeqU.last (by rfl) (fun K hK => ?_)
 go_simp
 skip
 refine hK.out _ _ ?_
 clear hK K
 try simp only [Act.put, List.setIfInBounds_toArray, List.set_cons_zero, List.set_cons_succ]
 refine SeqU.last (by rfl) (fun K hK => ?_)
 go_simp
 skip
 refine hK.out _ _ ?_
 clear hK K
 try simp only [Act.put, List.setIfInBounds_toArray, List.set_cons_zero, List.set_cons_succ]
 refine SeqU.done (NoPanic.normal ?_)
 go_wp2_with fail
 refine bodyPost_ret (results_cell_tmp_row rfl _ _ w.heap.size 27 #[.slice av xs.length cv, .slice au es.length cu] _ rfl (((unhide K06).set_ 0 _).set_ 1 _) Tryz.underlying27 rfl (by kernel_rfl)) rfl ?_
 have hp : w.heap.size < w1.heap.size := by omega
 have hp2 : w.heap.size < W4.drew.heap.size := by omega
 have og := (((unhide G6).storeBelow (p := ⟨w.heap.size, 0, none⟩) hp (.slice av xs.length cv)).storeBelow (p := ⟨w.heap.size, 1, none⟩) hp (.slice au es.length cu))
 have oc := (((unhide O6).storeBelow (p := ⟨w.heap.size, 0, none⟩) hp2 (.slice av xs.length cv)).storeBelow (p := ⟨w.heap.size, 1, none⟩) hp2 (.slice au es.length cu))
 exact ⟨⟨_, _, xs, _, _, es, _, _, cs, rfl, og.1.rd, og.2.rd, oc.rd, hxl, hel, hcl⟩, ((unhide B6).setCell (by show w.heap.size ≤ w.heap.size; omega) _).setCell (by show w.heap.size ≤ w.heap.size; omega) _⟩
end Go.Proofs.YtgfcbmflnldicaaGreat
