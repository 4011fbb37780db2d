/-
  Walks of the spec's remainder of polynomials.
-/
import Derived.Test.YtkbppgpegljcoaaDig
import Derived.StillTailTactics
namespace Go.Proofs.Ytkbppgpegljcoaa
open Go.RowKit

def lenOf : Value → Nat
  | .slice _ n _ => n
  | _ => 0
theorem rest_step {x p c y : Int} : (x + (p - c) * y) % p = (x - c * y) % p := by
  rw [Int.sub_mul, show x + (p * y - c * y) = x - c * y + p * y by omega, Int.add_mul_emod_self_left]

set_option maxRecDepth 100000 in
set_option maxHeartbeats 1600000 in
theorem l03Rest_any (a b : Option Addr) (c d : Nat) (xs ys : List Int) (p : Int) (w : World) (hx : Rd w a xs) (hy : Rd w b ys) (hp : 1 ≤ p) (hp2 : p ≤ 1000) (hxr : InR p xs) (hyr : ∀ y ∈ ys, 0 ≤ y ∧ y ≤ p) (hn : 1 ≤ xs.length) (hm : 2 ≤ ys.length) (hmn : ys.length - 1 ≤ xs.length) :
    Calls Try.prog 133 #[.slice a xs.length c, .slice b ys.length d, .int .i64 p] w fun e w' => ∃ v, e = .returned v ∧ Own w' w.heap.size v (prem p ys xs) ∧ Below w.heap.size w w' := by
  have hxl := hx.len
  have hyl := hy.len
  go_enter Try.func133, Try.ntmps133
  go_wp2_with fail
  refine (l00Own_any a c xs w hx).mono ?_
  rintro e w1 ⟨v, rfl, o1, b1⟩
  rcases o1.slice_form with ⟨rfl, rfl⟩ | ⟨g, cg, rfl, hB, hg⟩
  · simp at hn
  have hcap := o1.cap
  unfold maxLen at hcap
  obtain ⟨hcap1, hcap2⟩ := hcap
  clear hx
  go_wp2_with fail
  go_loopw [9] (fun kv wr => ∃ (t : Nat) (k : Int), kv = .int .i64 k ∧ Hid (k = (xs.length : Int) - 1 - t) ∧ k ≤ (xs.length : Int) - 1 ∧ (ys.length : Int) - 2 ≤ k ∧ Own wr w.heap.size (.slice (some ⟨g, 0, none⟩) xs.length cg) (remTo p ys xs t) ∧ Below w.heap.size w wr ∧ Hid (t ≤ xs.length - (ys.length - 1))) (fun kv _ => (intOf kv + 1).toNat)
  case atStart => exact ⟨0, _, rfl, show _ = _ by simp, by omega, by omega, o1, b1, Nat.zero_le _⟩
  case round =>
    obtain ⟨t, k, rfl, HK, hk1, hk2, ho, hb, hT⟩ := hrel
    have hlen := remTo_len p ys xs t
    by_cases hgo : (ys.length : Int) - 1 ≤ k
    · obtain ⟨i, rfl⟩ := Int.eq_ofNat_of_zero_le (show 0 ≤ k by omega)
      have hil : i < xs.length := by omega
      obtain ⟨R, hR⟩ : ∃ R, R = remTo p ys xs t := ⟨_, rfl⟩
      rw [← hR] at ho hlen
      have hRr : InR p R := by rw [hR]; exact remTo_in (by omega) hxr ys t
      have hc1 := ho.cell (j := i) (by omega)
      have hf := hRr.nth (i := i) (by omega)
      obtain ⟨F, hF⟩ : ∃ F, F = nth R i := ⟨_, rfl⟩
      rw [← hF] at hc1 hf
      have hf0 := hf.1
      have hf1 := hf.2
      have HR := Lib.hid hR
      have HF := Lib.hid hF
      have HL := Lib.hid hlen
      clear hR hF hlen hf
      obtain ⟨O, hO⟩ : ∃ O : Nat, O = i - (ys.length - 1) := ⟨_, rfl⟩
      have hiO : (i : Int) - (ys.length : Int) + 1 = (O : Int) := by omega
      have hOx : O + ys.length ≤ xs.length := by omega
      have HOO := Lib.hid hO
      clear hO
      go_wp2_with fail
      go_loopw [11] (fun jv wr2 => ∃ (j : Nat), jv = .int .i64 j ∧ j ≤ ys.length ∧ Own wr2 w.heap.size (.slice (some ⟨g, 0, none⟩) xs.length cg) (setK R ys F p (O) j) ∧ Below w.heap.size w wr2) (fun jv _ => ys.length - (intOf jv).toNat)
      case atStart => exact ⟨0, rfl, Nat.zero_le _, ho, hb⟩
      case round =>
        obtain ⟨j, rfl, hj, ho2, hb2⟩ := hrel
        have hSl := setK_len R ys F p (O) j
        by_cases hjl : j < ys.length
        · have hoff : O + j < xs.length := by omega
          obtain ⟨b2, o2, rfl, _, hcy⟩ := (hy.below hb2).at_ (by omega)
          have hy1 := hcy j hjl
          have hx1 := ho2.cell (j := O + j) (by rw [hSl, HL.out]; omega)
          rw [setK_nth _ _ _ _ _ (.inr (Nat.le_refl _))] at hx1
          have hxf := ho2.frozen (O + j)
          have hyb := hyr _ (nth_mem hjl)
          have hxb := hRr.nth (i := O + j) (by rw [HL.out]; omega)
          generalize hX : nth R (O + j) = X at hx1 hxb
          generalize hY : nth ys j = Y at hy1 hyb
          obtain ⟨hyb1, hyb2⟩ := hyb
          obtain ⟨hxb1, hxb2⟩ := hxb
          have hFY0 : 0 ≤ (p - F) * Y := Int.mul_nonneg (by omega) hyb1
          have hFY1 : (p - F) * Y ≤ 1000000 := by
            have := Int.mul_le_mul (show p - F ≤ 1000 by omega) (show Y ≤ 1000 by omega) hyb1 (by omega)
            omega
          have ht1 := Int.emod_nonneg (X + (p - F) * Y) (show p ≠ 0 by omega)
          have ht2 := Int.emod_lt_of_pos (X + (p - F) * Y) (show 0 < p by omega)
          have HX := Lib.hid hX
          have HY := Lib.hid hY
          have HO2 := Lib.hid ho2
          have HO := Lib.hid ho
          have HS := Lib.hid hSl
          clear hX hY ho2 ho hSl hcy
          go_wp2_with fail
          go_region
          go_wp2
          go_roundw
          case rel =>
            have hs := HO2.out.set (O + j) ((X + (p - F) * Y) % p)
            refine ⟨j + 1, by go_num, by omega, ?_, (hb2.setCell (by show w.heap.size ≤ g; omega) _).drew⟩
            rw [setK, HX.out, HY.out, ← rest_step]
            exact hs.1
          case measure => simp only [intOf]; omega
        · have hje : j = ys.length := by omega
          have HJ := Lib.hid hje
          have HO2 := Lib.hid ho2
          clear hje ho2 ho hSl
          go_wp2
          go_roundw
          case rel =>
            have e1 := HJ.out
            have e2 := HR.out
            have e3 := HF.out
            have e4 := HK.out
            have e5 := HOO.out
            have o := HO2.out
            rw [e1] at o
            refine ⟨t + 1, (i : Int) - 1, rfl, show _ = _ by omega, by omega, by omega, ?_, hb2, show _ ≤ _ by omega⟩
            rw [remTo, ← e2, show xs.length - 1 - t = i by omega, ← e3, ← e5]
            exact o
          case measure => simp only [intOf]; omega
    · have hTe : t = xs.length - (ys.length - 1) := by have := hT.out; have := HK.out; omega
      have HTE := Lib.hid hTe
      have HL := Lib.hid hlen
      have HO := Lib.hid ho
      have hb3 := hb
      clear hTe hlen ho hb
      go_wp2_with fail
      go_loopw [7] (fun v wr2 => ∃ (L : Nat), v = .slice (some ⟨g, 0, none⟩) L cg ∧ ys.length - 1 ≤ L ∧ L ≤ xs.length ∧ wr2 = wr) (fun v _ => lenOf v)
      case atStart => exact ⟨xs.length, rfl, hmn, Nat.le_refl _, rfl⟩
      case round =>
        obtain ⟨L, rfl, hL1, hL2, rfl⟩ := hrel
        by_cases hLn : ys.length ≤ L
        · go_wp2
          go_roundw
          case rel => exact ⟨L - 1, by go_num, by omega, by omega, by simp⟩
          case measure => simp only [lenOf]; omega
        · go_wp2
          go_ret
          have e1 := HTE.out
          rw [e1] at HO
          obtain rfl : L = ys.length - 1 := by omega
          exact ⟨_, rfl, HO.out.take hmn, hb3⟩
end Go.Proofs.Ytkbppgpegljcoaa
