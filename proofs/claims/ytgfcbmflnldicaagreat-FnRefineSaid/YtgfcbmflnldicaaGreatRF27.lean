/-
  Texts joined.
-/
import Derived.Test.YtgfcbmflnldicaaGreatRF1
import Derived.Test.YtgfcbmflnldicaaGreatRF2
import Derived.Test.YtgfcbmflnldicaaGreatRF7
import Derived.Test.YtgfcbmflnldicaaGreatRF10
import Derived.Test.YtgfcbmflnldicaaGreatRF12
set_option linter.unusedVariables false
set_option linter.unusedSimpArgs false
set_option maxRecDepth 100000
set_option maxHeartbeats 40000000
namespace Go.Proofs.YtgfcbmflnldicaaGreat
open Go.RowKit
theorem idRow_set {n j : Nat} (hj : j < n) : (rngI j ++ (zeros n).drop j).set j (j : Int) = rngI (j + 1) ++ (zeros n).drop (j + 1) := by
 rw [List.set_append_right _ _ (by rw [rngI_len]; omega), rngI_len, Nat.sub_self, rngI_succ, List.append_assoc, List.drop_eq_getElem_cons (by rw [zeros_len]; exact hj)]
 rfl
theorem idRow_len {n j : Nat} (hj : j ≤ n) : (rngI j ++ (zeros n).drop j).length = n := by rw [List.length_append, rngI_len, List.length_drop, zeros_len]; omega
theorem idRow_all (n : Nat) : rngI n ++ (zeros n).drop n = rngI n := by
 rw [show (zeros n).drop n = [] from List.drop_of_length_le (by rw [zeros_len]; exact Nat.le_refl _), List.append_nil]
theorem identity_any (n : Nat) (hn : n ≤ 1000000) (w : World) :
    Calls Tryz.prog 123 #[.int .i64 n] w fun e w' => ∃ v, e = .returned v ∧ Own w' w.heap.size v (rngI n) ∧ Below w.heap.size w w' := by
 go_enter Tryz.func123, Tryz.ntmps123
 go_wp2_with (refine wpList_make_ints rfl (.tmp 5) (.tmp 5) rfl .i64 .i64 n rfl rfl hn ?_; intro w3 g3 o3 b3)
 have O3 := Lib.hid o3
 obtain ⟨_, _, e3, _, h3⟩ := o3.form
 have hin := h3 g3 rfl
 clear e3 h3 o3
 go_loopw [9] (fun i wr => ∃ (j : Nat), i = .int .i64 j ∧ j ≤ n ∧ Hid (Own wr w.heap.size (.slice (some ⟨g3, 0, none⟩) n n) (rngI j ++ (zeros n).drop j)) ∧ Below w.heap.size w wr) (fun i _ => n - (intOf i).toNat)
 case atStart => exact ⟨0, rfl, Nat.zero_le _, O3, b3⟩
 case round =>
  obtain ⟨j, rfl, hj, ho, hb⟩ := hrel
  by_cases hjn : j < n
  · have hc := ho.out.cell (j := j) (by rw [idRow_len hj]; exact hjn)
    have hf := ho.out.frozen j
    have hs := ho.out.set j (j : Int)
    rw [idRow_set hjn] at hs
    have HS := hide hs
    clear hs ho
    go_wp2_with fail
    go_roundw
    case rel => exact ⟨j + 1, by go_num, by omega, (unhide HS).1, hb.setCell (by show w.heap.size ≤ g3; omega) _⟩
    case measure => simp only [intOf]; omega
  · have hje : j = n := by omega
    have hso := ho.out
    rw [hje, idRow_all] at hso
    have HSO := hide hso
    clear hje hso ho
    go_wp2_with fail
    go_ret
    exact ⟨_, rfl, unhide HSO, hb⟩
theorem isOrder_any (a : Option Addr) (c : Nat) (p : List Int) (n : Nat) (hn : n ≤ 1000000) (w : World) (hx : Rd w a p) :
    Calls Tryz.prog 57 #[.slice a p.length c, .int .i64 n] w fun e w' => e = .returned (.bool (permOk p n)) ∧ Below w.heap.size w w' := by
 have hcl := cloneI_any a c p w hx
 have HCL := hide hcl
 have hid := fun W => identity_any n hn W
 have HID := hide hid
 have heq := permOk_eq p n
 have HEQ := Lib.hid heq
 have hlr := rngI_len n
 have hls := sortI_len p
 have HLR := Lib.hid hlr
 have HLS := Lib.hid hls
 clear hcl hid heq hlr hls hx
 go_enter Tryz.func57, Tryz.ntmps57
 go_wp2_with fail
 refine (unhide HCL).mono ?_
 rintro e w1 ⟨v1, rfl, o1, b1⟩
 have O1 := hide o1
 go_wp2_with fail
 refine (sortI_own (unhide O1)).mono ?_
 rintro e w2 ⟨rfl, o2, g2⟩
 have b2 := Below.step b1 g2 (unhide O1) (Nat.le_refl _) b1.size
 obtain ⟨a2, c2, rfl, r2, _⟩ := o2.form
 have R2 := hide r2
 clear o1 o2 g2 r2 O1
 go_wp2_with fail
 refine (unhide HID w2).mono ?_
 rintro e w3 ⟨v3, rfl, o3, b3⟩
 obtain ⟨a3, c3, rfl, r3, _⟩ := o3.form
 have hse := slicesEqual_any a2 a3 c2 c3 (sortI p) (rngI n) w3 ((unhide R2).below b3) r3
 rw [HEQ.out] at hse
 have HSE := hide hse
 have d3 := b2.trans (b3.mono b2.size)
 clear hse o3 r3
 go_wp2_with fail
 refine (unhide HSE).mono ?_
 rintro e w4 ⟨rfl, q4⟩
 go_wp2_with fail
 go_ret
 exact ⟨rfl, d3.trans (q4.below _)⟩
end Go.Proofs.YtgfcbmflnldicaaGreat
