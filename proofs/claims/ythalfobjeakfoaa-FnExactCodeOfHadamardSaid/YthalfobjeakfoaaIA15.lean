/-
  Texts joined.
-/
import Derived.Test.YthalfobjeakfoaaIA1
import Derived.Test.YthalfobjeakfoaaIA2
import Derived.Test.YthalfobjeakfoaaIA10
import Derived.Test.YthalfobjeakfoaaIA13
import Derived.Test.YthalfobjeakfoaaIA14
set_option linter.unusedVariables false
set_option linter.unusedSimpArgs false
set_option maxRecDepth 100000
set_option maxHeartbeats 40000000
namespace Go.Proofs.Ythalfobjeakfoaa
open Go.RowKit
attribute [local go_sem ↓] Go.wp_at_zero Go.wp_at_succ
theorem l15Ok_any (ra : Option Addr) (rc : Nat) (h : List (List Int)) (w : World) (hx : RdS w ra h) :
    Calls Try.prog 94 #[.slice ra h.length rc] w fun e w' => e = .returned (.bool (hadOk h)) ∧ Below w.heap.size w w' := by
 have hxl := hx.len
 generalize hR : hadOk h = r
 have HR := Lib.hid hR
 obtain ⟨n, hn⟩ : ∃ n, n = h.length := ⟨_, rfl⟩
 have HN := Lib.hid hn
 have HX := hide hx
 rw [← hn] at hxl ⊢
 clear hx hR hn
 by_cases hlen : 1 ≤ n ∧ n ≤ 32
 case neg =>
  have hno : r = false := by rw [← HR.out]; exact hadOk_len (by have := HN.out; omega)
  have HNO := Lib.hid hno
  clear hno
  by_cases h1 : 1 ≤ n
  · have e1 : decide ((n : Int) < 1) = false := by rw [decide_eq_false_iff_not]; omega
    have e2 : decide ((32 : Int) < (n : Int)) = true := decide_eq_true (by omega)
    clear hlen
    go_enter Try.func94, Try.ntmps94
    go_wp2_with fail
    go_ret
    exact ⟨by rw [HNO.out]; rfl, Below.refl _ _⟩
  · have e1 : decide ((n : Int) < 1) = true := decide_eq_true (by omega)
    clear hlen
    go_enter Try.func94, Try.ntmps94
    go_wp2_with fail
    go_ret
    exact ⟨by rw [HNO.out]; rfl, Below.refl _ _⟩
 have e1 : decide ((n : Int) < 1) = false := by rw [decide_eq_false_iff_not]; omega
 have e2 : decide ((32 : Int) < (n : Int)) = false := by rw [decide_eq_false_iff_not]; omega
 go_enter Try.func94, Try.ntmps94
 go_wp2_with fail
 go_loopw [4] (fun iv wr => ∃ i : Nat, iv = .int .i64 i ∧ i ≤ n ∧ Below w.heap.size w wr ∧ Hid (∀ k, k < i → hadRow n (nthL h k) = true)) (fun iv _ => n - (intOf iv).toNat)
 case atStart => exact ⟨0, rfl, Nat.zero_le _, Below.refl _ _, fun k hk => by omega⟩
 case round =>
  obtain ⟨i, rfl, hi, hb, hq⟩ := hrel
  have hsz := hb.size
  by_cases hin : i < n
  · have hih : i < h.length := by rw [← HN.out]; exact hin
    obtain ⟨b0, off, rfl, hb0, hcc⟩ := (unhide HX).at_ (by omega)
    obtain ⟨ai, ci, h1, hri⟩ := hcc i hih
    have hl0 := (hb.cell (p := ⟨b0, off + i, none⟩) hb0).trans h1
    obtain ⟨xs, hxs⟩ : ∃ xs, xs = nthL h i := ⟨_, rfl⟩
    rw [← hxs] at hl0 hri h1
    have HXS := Lib.hid hxs
    have HRI := hide hri
    have HL0 := hide h1
    clear hcc h1 hri hxs
    by_cases hln : xs.length = n
    case neg =>
     have e3 : ((xs.length : Int) != (n : Int)) = true := by rw [bne_iff_ne]; omega
     have hno : r = false := by rw [← HR.out]; exact hadOk_row hih (by rw [← HN.out, ← HXS.out]; exact hadRow_len hln)
     have HNO := Lib.hid hno
     clear hln hno e1 e2
     go_wp2_with fail
     go_ret
     exact ⟨by rw [HNO.out]; rfl, hb⟩
    rw [hln] at hl0 HL0
    have e3 : ((n : Int) != (n : Int)) = false := by simp
    have HLN := Lib.hid hln
    clear hln e1 e2
    go_wp2_with fail
    go_loopw [5] (fun iv wr => ∃ k : Nat, iv = .int .i64 k ∧ k ≤ n ∧ Below w.heap.size w wr ∧ Hid (∀ j, j < k → nth xs j = 1 ∨ nth xs j = -1)) (fun iv _ => n - (intOf iv).toNat)
    case atStart => exact ⟨0, rfl, Nat.zero_le _, hb, fun k hk => by omega⟩
    case round =>
     obtain ⟨k, rfl, hk, hb, hqk⟩ := hrel
     have hl0 := (hb.cell (p := ⟨b0, off + i, none⟩) hb0).trans (unhide HL0)
     by_cases hkn : k < n
     · obtain ⟨xb, xo, rfl, hxb, hxc⟩ := (unhide HRI).at_ (by rw [HLN.out]; omega)
       have hx1 := (hb.cell (p := ⟨xb, xo + k, none⟩) hxb).trans (hxc k (by rw [HLN.out]; exact hkn))
       obtain ⟨x, hxx⟩ : ∃ x, x = nth xs k := ⟨_, rfl⟩
       rw [← hxx] at hx1
       have HXX := Lib.hid hxx
       clear hxc hxx
       by_cases c1 : x = 1
       · have e4 : (x != 1) = false := by simpa using c1
         have HC := Lib.hid c1
         clear c1
         go_wp2_with fail
         go_roundw
         case rel =>
          refine ⟨k + 1, by go_num, by omega, hb, fun j hj => ?_⟩
          rcases Nat.lt_succ_iff_lt_or_eq.1 hj with h | rfl
          · exact hqk.out j h
          · left; rw [← HXX.out]; exact HC.out
         case measure => simp only [intOf]; omega
       · have e4 : (x != 1) = true := by simpa using c1
         by_cases c2 : x = -1
         · have e5 : (x != -1) = false := by simpa using c2
           have HC := Lib.hid c2
           clear c1 c2
           go_wp2_with fail
           go_roundw
           case rel =>
            refine ⟨k + 1, by go_num, by omega, hb, fun j hj => ?_⟩
            rcases Nat.lt_succ_iff_lt_or_eq.1 hj with h | rfl
            · exact hqk.out j h
            · right; rw [← HXX.out]; exact HC.out
           case measure => simp only [intOf]; omega
         · have e5 : (x != -1) = true := by simpa using c2
           have hno : r = false := by rw [← HR.out]; exact hadOk_row hih (by rw [← HN.out, ← HXS.out]; exact hadRow_bad (k := k) (by rw [HLN.out]; exact hkn) (by rw [← HXX.out]; exact c1) (by rw [← HXX.out]; exact c2))
           have HNO := Lib.hid hno
           clear c1 c2 hno
           go_wp2_with fail
           go_ret
           exact ⟨by rw [HNO.out]; rfl, hb⟩
     · have hke : k = n := by omega
       have HK := Lib.hid hke
       clear hke
       go_wp2_with fail
       go_roundw
       case rel =>
        refine ⟨i + 1, by go_num, by omega, hb, fun j hj => ?_⟩
        rcases Nat.lt_succ_iff_lt_or_eq.1 hj with h | rfl
        · exact hq.out j h
        · rw [← HXS.out]; exact hadRow_yes HLN.out (fun j hj => hqk.out j (by rw [HK.out]; exact hj))
       case measure => simp only [intOf]; omega
  · have hie : i = n := by omega
    have HROWS := hide (show ∀ k, k < n → hadRow n (nthL h k) = true from fun k hk => hq.out k (by omega))
    clear hie hq e1 e2
    go_wp2_with fail
    go_loopw [6] (fun iv wr => ∃ i : Nat, iv = .int .i64 i ∧ i ≤ n ∧ Below w.heap.size w wr ∧ Hid (∀ k, k < i → ∀ j, j < k → dots h k j = 0)) (fun iv _ => n - (intOf iv).toNat)
    case atStart => exact ⟨0, rfl, Nat.zero_le _, hb, fun k hk => by omega⟩
    case round =>
     obtain ⟨i, rfl, hi, hb, hq⟩ := hrel
     by_cases hin : i < n
     · go_wp2_with fail
       go_loopw [7] (fun iv wr => ∃ j : Nat, iv = .int .i64 j ∧ j ≤ i ∧ Below w.heap.size w wr ∧ Hid (∀ k, k < j → dots h i k = 0)) (fun iv _ => i - (intOf iv).toNat)
       case atStart => exact ⟨0, rfl, Nat.zero_le _, hb, fun k hk => by omega⟩
       case round =>
        obtain ⟨j, rfl, hj, hb, hqj⟩ := hrel
        have hsz := hb.size
        by_cases hji : j < i
        · obtain ⟨b0, off, rfl, hb0, hcc⟩ := (unhide HX).at_ (by have := HN.out; omega)
          obtain ⟨ai, ci, g1, hri⟩ := hcc i (by have := HN.out; omega)
          obtain ⟨aj, cj, g2, hrj⟩ := hcc j (by have := HN.out; omega)
          have hri1 := hadRow_el ((unhide HROWS) i hin)
          have hrj1 := hadRow_el ((unhide HROWS) j (by omega))
          have hl0 := (hb.cell (p := ⟨b0, off + i, none⟩) hb0).trans g1
          have hl1 := (hb.cell (p := ⟨b0, off + j, none⟩) hb0).trans g2
          rw [hri1.1] at hl0
          rw [hrj1.1] at hl1
          obtain ⟨s, hs⟩ : ∃ s, s = dots h i j := ⟨_, rfl⟩
          have hdo := fun W (hW : Below wr.heap.size wr W) => l15Dot_any ai aj ci cj n (nthL h i) (nthL h j) W ((hri.below hb).below hW) ((hrj.below hb).below hW) hri1.1 hrj1.1 hri1.2 hrj1.2
          have hse : dotTo (nthL h i) (nthL h j) n = s := by rw [hs, dots, HN.out]
          rw [hse] at hdo
          have key : ∀ W, Below wr.heap.size wr W → (Below wr.heap.size wr W ∧ W.cell? ⟨b0, off + i, none⟩ = some (.slice ai n ci) ∧ W.cell? ⟨b0, off + j, none⟩ = some (.slice aj n cj)) := fun W h => ⟨h, (h.cell (p := ⟨b0, off + i, none⟩) (by show b0 < _; omega)).trans hl0, (h.cell (p := ⟨b0, off + j, none⟩) (by show b0 < _; omega)).trans hl1⟩
          have BX := hide key
          have HDO := hide hdo
          have HS := Lib.hid hs
          have hjn : j < n := by omega
          clear hcc g1 g2 hri hrj hri1 hrj1 hdo hse hs key hl0 hl1
          go_upto_region 20 with fail
          refine wp_region_noPanic ?_
          refine wp_region_seq (S := (fun W => Below wr.heap.size wr W ∧ W.cell? ⟨b0, off + i, none⟩ = some (.slice ai n ci) ∧ W.cell? ⟨b0, off + j, none⟩ = some (.slice aj n cj))) [true, true, true, true, true, true, true, true, false, true] (by kernel_rfl) (by kernel_rfl) (by kernel_rfl) rfl (fun _ _ _ _ _ h => h) ?_ (fun hHeld => ?_)
          · exact (unhide BX) _ (Below.refl _ _).drew
          simp only [List.toList_toArray]
          refine SeqH.take (v := ?hv1) (by rfl) ?hy1 ?hr1
          case hy1 =>
           intro w hSw
           try dsimp only at hSw
           go_simp
           try (with_reducible rfl)
          try simp only [Act.put, List.setIfInBounds_toArray, List.set_cons_zero, List.set_cons_succ]
          refine SeqH.take (v := ?hv2) (by rfl) ?hy2 ?hr2
          case hy2 =>
           intro w hSw
           try dsimp only at hSw
           go_simp
           try (with_reducible rfl)
          try simp only [Act.put, List.setIfInBounds_toArray, List.set_cons_zero, List.set_cons_succ]
          refine SeqH.take (v := ?hv3) (by rfl) ?hy3 ?hr3
          case hy3 =>
           intro w hSw
           try dsimp only at hSw
           go_simp
           try (with_reducible rfl)
          try simp only [Act.put, List.setIfInBounds_toArray, List.set_cons_zero, List.set_cons_succ]
          refine SeqH.take (v := ?hv4) (by rfl) ?hy4 ?hr4
          case hy4 =>
           intro w hSw
           try dsimp only at hSw
           go_simp
           try (with_reducible rfl)
          try simp only [Act.put, List.setIfInBounds_toArray, List.set_cons_zero, List.set_cons_succ]
          refine SeqH.take (v := ?hv5) (by rfl) ?hy5 ?hr5
          case hy5 =>
           intro w hSw
           try dsimp only at hSw
           go_simp
           try (with_reducible rfl)
          try simp only [Act.put, List.setIfInBounds_toArray, List.set_cons_zero, List.set_cons_succ]
          refine SeqH.take (v := ?hv6) (by rfl) ?hy6 ?hr6
          case hy6 =>
           intro w hSw
           try dsimp only at hSw
           go_simp
           try (with_reducible rfl)
          try simp only [Act.put, List.setIfInBounds_toArray, List.set_cons_zero, List.set_cons_succ]
          refine SeqH.take (v := ?hv7) (by rfl) ?hy7 ?hr7
          case hy7 =>
           intro w hSw
           try dsimp only at hSw
           go_simp
           try (with_reducible rfl)
          try simp only [Act.put, List.setIfInBounds_toArray, List.set_cons_zero, List.set_cons_succ]
          refine SeqH.take (v := ?hv8) (by rfl) ?hy8 ?hr8
          case hy8 =>
           intro w hSw
           try dsimp only at hSw
           go_simp
           try (with_reducible rfl)
          try simp only [Act.put, List.setIfInBounds_toArray, List.set_cons_zero, List.set_cons_succ]
          refine SeqH.call (fun K hK => ?_)
          go_simp
          refine ((unhide HDO) _ (And.left hHeld)).mono ?_
          rintro e w5 ⟨rfl, b5⟩
          have d5 := Below.chain (And.left hHeld) b5
          clear hHeld
          refine hK.out _ _ ?_ (fun hHeld => ?_)
          · exact (unhide BX) _ d5
          clear hK K
          try simp only [Act.put, List.setIfInBounds_toArray, List.set_cons_zero, List.set_cons_succ]
          refine SeqH.take (v := ?hv9) (by rfl) ?hy9 ?hr9
          case hy9 =>
           intro w hSw
           try dsimp only at hSw
           go_simp
           try (with_reducible rfl)
          try simp only [Act.put, List.setIfInBounds_toArray, List.set_cons_zero, List.set_cons_succ]
          refine SeqH.done (NoPanic.normal ?_)
          by_cases hs0 : s = 0
          · have es : (s != 0) = false := by simpa using hs0
            have HSZ := Lib.hid hs0
            clear hs0
            go_wp2_with fail
            go_roundw
            case rel =>
             refine ⟨j + 1, by go_num, by omega, hb.trans (d5.mono hsz), fun k hk => ?_⟩
             rcases Nat.lt_succ_iff_lt_or_eq.1 hk with h | rfl
             · exact hqj.out k h
             · rw [← HS.out]; exact HSZ.out
            case measure => simp only [intOf]; omega
          · have es : (s != 0) = true := by simpa using hs0
            have hno : r = false := by rw [← HR.out]; exact hadOk_dot (by have := HN.out; omega) hji (by rw [← HS.out]; exact hs0)
            have HNO := Lib.hid hno
            clear hs0 hno
            go_wp2_with fail
            go_ret
            exact ⟨by rw [HNO.out]; rfl, hb.trans (d5.mono hsz)⟩
        · have hje : j = i := by omega
          have HJ := Lib.hid hje
          clear hje
          go_wp2_with fail
          go_roundw
          case rel =>
           refine ⟨i + 1, by go_num, by omega, hb, fun k hk => ?_⟩
           rcases Nat.lt_succ_iff_lt_or_eq.1 hk with h | rfl
           · exact hq.out k h
           · exact fun j' hj' => hqj.out j' (by rw [HJ.out]; exact hj')
          case measure => simp only [intOf]; omega
     · have hie : i = n := by omega
       have hyes : r = true := by
        have hnn := HN.out
        rw [← HR.out, hadOk_iff]
        exact ⟨by omega, fun k hk => by have := (unhide HROWS) k (by omega); rw [← hnn]; exact this, fun k hk => hq.out k (by omega)⟩
       have HY := Lib.hid hyes
       clear hie hyes
       go_wp2_with fail
       go_ret
       exact ⟨by rw [HY.out]; rfl, hb⟩
end Go.Proofs.Ythalfobjeakfoaa
namespace Go.Proofs.Ythalfobjeakfoaa
open Go.RowKit
attribute [local go_sem ↓] Go.wp_at_zero Go.wp_at_succ
theorem specCH_any (ra : Option Addr) (rc : Nat) (h : List (List Int)) (w : World) (hx : RdS w ra h) : Calls Try.prog 46 #[.slice ra h.length rc] w (SpC w w.heap.size (hadRes h)) := by
 have hxl := hx.len
 obtain ⟨W0, hHW⟩ : ∃ z, z = w.alloc (.cells #[.int .i64 0, .int .i64 0, .slice none 0 0, .slice none 0 0] 29) := ⟨_, rfl⟩
 have b0 : Below w.heap.size w W0 := by rw [hHW]; exact (Below.refl _ _).alloc (Nat.le_refl _) _
 have k0 : Blk W0 w.heap.size 29 #[.int .i64 0, .int .i64 0, .slice none 0 0, .slice none 0 0] := by rw [hHW]; exact Blk.new _ _ _ rfl
 have sk0 : w.heap.size < W0.heap.size := k0.lt
 have HW := Lib.hid hHW
 clear hHW
 have hL := l15Ok_any ra rc h W0 (hx.below b0)
 unfold hadRes
 cases hok : hadOk h with
 | false =>
  rw [hok] at hL
  have HL := hide hL
  clear hL hok hx
  go_enter Try.func46, Try.ntmps46
  go_wp2_with fail
  rw [← HW.out]
  refine (unhide HL).mono ?_
  rintro e w1 ⟨rfl, b1⟩
  have k1 := k0.below b1 k0.lt
  have hb1 := b0.trans (b1.mono (Nat.le_of_lt sk0))
  have f0 := k1.cell 0
  have f1 := k1.cell 1
  have f2 := k1.cell 2
  have f3 := k1.cell 3
  have g0 := k1.frozen 0
  have g1 := k1.frozen 1
  have g2 := k1.frozen 2
  have g3 := k1.frozen 3
  go_wp2
  refine bodyPost_ret (results_cell_tmp_row rfl _ _ w.heap.size 29 #[.int .i64 0, .int .i64 0, .slice none 0 0, .slice none 0 0] _ rfl (k1.b4.store _ _ _ _) Try.underlying29 rfl (by kernel_rfl)) rfl ?_
  exact ⟨_, _, rfl, Own.nil _ _, OwnS.nil _ _, Below.set4 hb1 (Nat.le_refl _) _ _ _ _⟩
 | true =>
  rw [if_pos rfl]
  rw [hok] at hL
  have HL := hide hL
  obtain ⟨hlen, hrows, _⟩ := hadOk_iff.1 hok
  have hf := isField_2
  have hG := fdOf_good hf
  have ok := hG.ok
  have hM := fun W => l03Make_any 2 W hf
  have hmat := bitRows_Mat ok hrows
  generalize fdOf 2 = F at hM hG ok hmat ⊢
  have HM := hide hM
  have HX := hide hx
  have HROWS := hide hrows
  have HMAT := hide hmat
  obtain ⟨n, hn⟩ : ∃ n, n = h.length := ⟨_, rfl⟩
  have HN := Lib.hid hn.symm
  rw [← hn] at hlen HMAT HL ⊢
  clear hL hok hM hf hx hrows hmat hn
  go_enter Try.func46, Try.ntmps46
  go_wp2_with fail
  rw [← HW.out]
  refine (unhide HL).mono ?_
  rintro e wv ⟨rfl, bv⟩
  go_wp2_with fail
  refine (unhide HM _).mono ?_
  rintro e w1 ⟨v1, rfl, o1, b1⟩
  obtain ⟨a1, c1, rfl, r1, _⟩ := o1.form
  obtain ⟨W1, hHF⟩ : ∃ z, z = w1.alloc (.cells #[.int .i64 F.p, .int .i64 F.k, .slice a1 F.poly.length c1] 26) := ⟨_, rfl⟩
  have bF : Below w1.heap.size w1 W1 := by rw [hHF]; exact (Below.refl _ _).alloc (Nat.le_refl _) _
  have kF : Blk W1 w1.heap.size 26 #[.int .i64 F.p, .int .i64 F.k, .slice a1 F.poly.length c1] := by rw [hHF]; exact Blk.new _ _ _ rfl
  have skF : w1.heap.size < W1.heap.size := kF.lt
  have HF := Lib.hid hHF
  clear hHF
  have hF : PF W1 w1.heap.size F := ⟨kF.cell 0, kF.cell 1, a1, c1, kF.cell 2, r1.below bF⟩
  have b1' := Below.chain (Below.chain bv b1) bF
  have hb1 := b0.trans (b1'.mono (Nat.le_of_lt sk0))
  have k1 := k0.below b1' k0.lt
  have z1 := b1'.size
  have z1' : w.heap.size ≤ W1.heap.size := by omega
  clear r1 o1 kF b1 bF
  go_upto_region 4 with fail
  rw [← HF.out]
  go_wp2_with fail
  go_loopw [5, 6] (fun v iv wr => ∃ m : Nat, iv = .int .i64 m ∧ m ≤ n ∧ Hid (OwnS wr W1.heap.size v (bitRows h n m)) ∧ Below W1.heap.size W1 wr) (fun _ iv _ => n - (intOf iv).toNat)
  case atStart => exact ⟨0, rfl, Nat.zero_le _, OwnS.empty W1 (Nat.le_refl _), (Below.refl _ _).alloc (Nat.le_refl _) _⟩
  case round =>
   obtain ⟨m, rfl, hm, ho, hb⟩ := hrel
   have hsz := hb.size
   rename World => wo
   by_cases hmn : m < n
   · have hml : (bitRows h n m).length = m := bitRows_len _ _ _
     have HML := Lib.hid hml
     clear hml
     go_wp2_with fail
     go_loopw [7, 8] (fun v iv wr => ∃ k : Nat, iv = .int .i64 k ∧ k ≤ n ∧ Hid (Own wr wo.heap.size v (bitR (nthL h m) k)) ∧ Below wo.heap.size wo wr) (fun _ iv _ => n - (intOf iv).toNat)
     case atStart => exact ⟨0, rfl, Nat.zero_le _, Own.empty wo (Nat.le_refl _), (Below.refl _ _).alloc (Nat.le_refl _) _⟩
     case round =>
      obtain ⟨k, rfl, hk, hor, hbr⟩ := hrel
      have hbw := hb.trans (hbr.mono hsz)
      have hszr := hbr.size
      have hbP : Below w.heap.size w wr := hb1.trans (hbw.mono z1')
      by_cases hkn : k < n
      · skip
        obtain ⟨hb0, hoff, rfl, hhb, hcc⟩ := (unhide HX).at_ (by have := HN.out; omega)
        obtain ⟨ai, ci, h1, hri⟩ := hcc m (by have := HN.out; omega)
        have hrl := hadRow_el ((unhide HROWS) m (by have := HN.out; omega))
        obtain ⟨xs, hxs⟩ : ∃ xs, xs = nthL h m := ⟨_, rfl⟩
        rw [← hxs] at h1 hri hrl
        rw [hrl.1, HN.out] at h1
        obtain ⟨xb, xo, rfl, hxb, hxc⟩ := hri.at_ (by rw [hrl.1, HN.out]; omega)
        have g1 := hxc k (by rw [hrl.1, HN.out]; omega)
        have hl0 := (hbP.cell (p := ⟨hb0, hoff + m, none⟩) hhb).trans h1
        have hx1 := (hbP.cell (p := ⟨xb, xo + k, none⟩) hxb).trans g1
        obtain ⟨x, hxx⟩ : ∃ x, x = nth xs k := ⟨_, rfl⟩
        have hsg := hrl.2 k (by rw [HN.out]; omega)
        rw [← hxx] at hx1 hsg
        obtain ⟨z, hz⟩ : ∃ z, z = 1 - x := ⟨_, rfl⟩
        have hw1 : IntKind.i64.wrap (1 - x) = z := by rw [hz]; exact IntWalk.i64_in _ (by omega)
        have hbt : z.tdiv 2 = 0 ∨ z.tdiv 2 = 1 := by rw [hz]; exact bit_sign hsg
        obtain ⟨y, hy⟩ : ∃ y, y = z.tdiv 2 := ⟨_, rfl⟩
        have hw2 : z.tdiv 2 = y := hy.symm
        rw [← hy] at hbt
        have hw3 : IntKind.i64.wrap y = y := IntWalk.i64_in _ (by omega)
        have hst := bitR_succ (nthL h m) k
        rw [← hxs, ← hxx, ← hz, ← hy] at hst
        have hrll : (bitR xs k).length = k := bitR_len _ _
        rw [← hxs] at hor
        obtain ⟨row, hrw⟩ : ∃ row, row = bitR xs k := ⟨_, rfl⟩
        rw [← hrw] at hor hst hrll
        have HST := Lib.hid hst
        have HRL := Lib.hid hrll
        have HXS := Lib.hid hxs
        have o3 := hor.out
        obtain ⟨a3, c3, rfl, _, _⟩ := o3.form
        have O3 := hide o3
        clear hst hrll hrw o3 hor hcc h1 hri hrl hxs hxc g1 hxx hsg hz hy
        go_wp2_with (at_builtin; refine wpList_append_ints rfl (.tmp 28) (.tmp 38) rfl wo.heap.size _ row [y] rfl ((unhide O3).alloc _) _ 1 1 rfl rfl (Rd.one wr y _) (by rw [HRL.out]; simp; omega) (by simp; omega) ?_; intro v5 w5 o5 g5 _)
        go_roundw
        case rel => exact ⟨k + 1, by go_num, by omega, by show Own _ _ _ _; rw [← HXS.out, HST.out]; exact o5, (hbr.alloc (by omega) _).grown g5 (by simp; omega) (fun q hq => by have := ((unhide O3).lt q hq).1; omega)⟩
        case measure => simp only [intOf]; omega
      · have hke : k = n := by omega
        have oR := hor.out
        rw [hke] at oR
        obtain ⟨a4, c4, rfl, _, _⟩ := oR.form
        obtain ⟨row, hrw⟩ : ∃ row, row = bitR (nthL h m) n := ⟨_, rfl⟩
        have hst := bitRows_succ h n m
        rw [← hrw] at oR hst
        rw [← hrw]
        have HST := Lib.hid hst
        have OR := hide oR
        have hH := ho.out.toH.belw hbr (Nat.le_refl _)
        have HH := hide hH
        clear hke hrw hst oR hor ho hH
        go_wp2_with (at_builtin; refine wpList_append_row rfl (.tmp 40) (.tmp 42) rfl (v := u5) rfl ((unhide HH).belw ((Below.refl _ _).alloc (Nat.le_refl _) _) (by omega)) _ rfl ((Blk.new wr 24 #[.slice a4 row.length c4] rfl).cell 0) ((unhide OR).alloc _) hsz (by simp; omega) (by rw [HML.out]; omega) ?_; intro v6 w6 o6 g6 _)
        go_roundw
        case rel =>
         refine ⟨m + 1, by go_num, by omega, ?_, Below.stepS (hbw.alloc (by omega) _) g6 ((unhide HH).belw ((Below.refl _ _).alloc (Nat.le_refl _) _) (by omega)).own (Nat.le_refl _) (by simp; omega)⟩
         show OwnS _ _ _ _
         rw [HST.out]
         exact o6
        case measure => simp only [intOf]; omega
   · have hme : m = n := by omega
     have HE := Lib.hid hme
     clear hme
     have o5 := ho.out
     rw [HE.out] at o5
     have hrl := bitRows_len h n n
     have hmat := unhide HMAT
     obtain ⟨ra5, rc5, e5, r5⟩ := o5.form
     obtain ⟨rows, hrows⟩ : ∃ rows, rows = bitRows h n n := ⟨_, rfl⟩
     rw [← hrows] at hmat o5 hrl e5 r5 ⊢
     subst e5
     have hFr := hF.below hb
     have hFm := l17Form_any w1.heap.size F ra5 rc5 rows n wo hFr hG r5 (by omega) hmat
     have HFM := hide hFm
     have HRL := Lib.hid hrl
     have HROWS2 := Lib.hid hrows
     clear hFm hrows hrl hmat
     go_wp2_with fail
     refine (unhide HFM).mono ?_
     rintro e w3 ⟨v3, rfl, o3, b3⟩
     obtain ⟨fm, hfm⟩ : ∃ fm, fm = form F rows n := ⟨_, rfl⟩
     rw [← hfm] at o3
     obtain ⟨a3, c3, rfl, r3⟩ := o3.form
     have hF3 := hFr.below b3
     have z3 := b3.size
     have hMk := l18Make_any wo.heap.size w1.heap.size F a3 c3 fm w3 hF3 ok o3 z3
     have HMK := hide hMk
     have HFE := Lib.hid hfm
     clear hMk hfm
     go_wp2_with fail
     refine (unhide HMK).mono ?_
     rintro e w4 ⟨v4, u4, rfl, o4, q4, b4⟩
     obtain ⟨rr, hrr⟩ : ∃ rr, rr = mkC F fm := ⟨_, rfl⟩
     rw [← hrr] at o4 q4 ⊢
     obtain ⟨rp, rd, rx, ry, rz⟩ := rr
     simp only [] at o4 q4 ⊢
     obtain ⟨a4, c4, rfl, _, _⟩ := o4.form
     obtain ⟨p4, d4, rfl, _⟩ := q4.form
     have z4 := b4.size
     have HRR := Lib.hid hrr
     have hb4 := hb1.trans (((hb.trans (b3.mono hsz)).trans (b4.mono (by omega))).mono z1')
     have k4 := ((k1.below hb k1.lt).below b3 (by have := k1.lt; omega)).below b4 (by have := k1.lt; omega)
     have f0 := k4.cell 0
     have f1 := k4.cell 1
     have f2 := k4.cell 2
     have f3 := k4.cell 3
     have g0 := k4.frozen 0
     have g1 := k4.frozen 1
     have g2 := k4.frozen 2
     have g3 := k4.frozen 3
     clear hrr
     go_wp2
     have p3 : w.heap.size < wo.heap.size := by omega
     refine bodyPost_ret (results_cell_tmp_row rfl _ _ w.heap.size 29 #[.int .i64 rp, .int .i64 rd, .slice a4 rx.length c4, .slice p4 ry.length d4] _ rfl (k4.b4.store _ _ _ _) Try.underlying29 rfl (by kernel_rfl)) rfl ?_
     show SpC w w.heap.size (mkC F (form F (bitRows h n n) n)) _ _
     rw [← HROWS2.out, ← HFE.out, ← HRR.out]
     refine ⟨_, _, rfl, ?_, ?_, Below.set4 hb4 (Nat.le_refl _) _ _ _ _⟩
     · exact ((((o4.storeBelow p3 _).storeBelow p3 _).storeBelow p3 _).storeBelow p3 _).mono (by omega)
     · exact ((((q4.storeBelow p3 _).storeBelow p3 _).storeBelow p3 _).storeBelow p3 _).mono (by omega)
end Go.Proofs.Ythalfobjeakfoaa
namespace Go.Proofs.Ythalfobjeakfoaa
open Go.RowKit
attribute [local go_sem ↓] Go.wp_at_zero Go.wp_at_succ
theorem implCH_any (ra : Option Addr) (rc : Nat) (h : List (List Int)) (w : World) (hx : RdS w ra h) (hc : h.length ≤ rc) : Calls Try.prog 48 #[.slice ra h.length rc] w (ResC w (hadRes h)) := by
 have hxl := hx.len
 obtain ⟨W0, hW0⟩ : ∃ W0, W0 = (w.alloc (.cells #[.slice ra h.length rc] 27)).alloc (.cells #[.int .i64 0, .int .i64 0, .slice none 0 0, .slice none 0 0] 29) := ⟨_, rfl⟩
 have b0 : Below w.heap.size w W0 := by rw [hW0]; exact ((Below.refl _ _).alloc (Nat.le_refl _) _).alloc (by simp) _
 have kA : Blk W0 w.heap.size 27 #[.slice ra h.length rc] := by rw [hW0]; exact (Blk.new _ _ _ rfl).alloc _
 have k0 : Blk W0 (w.heap.size + 1) 29 #[.int .i64 0, .int .i64 0, .slice none 0 0, .slice none 0 0] := by rw [hW0]; exact Blk.new _ _ _ (by simp)
 have s0 : W0.heap.size = w.heap.size + 1 + 1 := by rw [hW0]; simp
 have f0 := kA.cell 0
 rw [hW0] at f0
 have HW := Lib.hid hW0
 have hL := implVH_any ra rc h W0 (hx.below b0) hc
 unfold hadRes
 clear hW0
 cases hok : hadOk h with
 | false =>
  rw [hok] at hL
  have HL := hide hL
  clear hL hok hx
  go_enter Try.func48, Try.ntmps48
  go_wp2_with fail
  rw [← HW.out]
  refine (unhide HL).mono ?_
  rintro e w1 ⟨rfl, b1⟩
  have k1 := k0.below b1 k0.lt
  have hb1 := b0.trans (b1.mono (by omega))
  clear f0
  have f0 := k1.cell 0
  have f1 := k1.cell 1
  have f2 := k1.cell 2
  have f3 := k1.cell 3
  have g0 := k1.frozen 0
  have g1 := k1.frozen 1
  have g2 := k1.frozen 2
  have g3 := k1.frozen 3
  go_wp2
  refine bodyPost_ret (results_cell_tmp_row rfl _ _ (w.heap.size + 1) 29 #[.int .i64 0, .int .i64 0, .slice none 0 0, .slice none 0 0] _ rfl (k1.b4.store _ _ _ _) Try.underlying29 rfl (by kernel_rfl)) rfl ?_
  exact ⟨_, _, rfl, OwnC.nil _ _, Below.set4 hb1 (by omega) _ _ _ _⟩
 | true =>
  rw [if_pos rfl]
  rw [hok] at hL
  have HL := hide hL
  obtain ⟨hlen, hrows, _⟩ := hadOk_iff.1 hok
  have hf := isField_2
  have hG := fdOf_good hf
  have ok := hG.ok
  have hM := fun W => MakeField_any 2 W
  simp only [mkF_fd hf] at hM
  have hmat := bitRows_Mat ok hrows
  generalize fdOf 2 = F at hM hG ok hmat ⊢
  have HM := hide hM
  have HX := hide (hx.below b0)
  have HROWS := hide hrows
  have HMAT := hide hmat
  obtain ⟨n, hn⟩ : ∃ n, n = h.length := ⟨_, rfl⟩
  have HN := Lib.hid hn.symm
  obtain ⟨rr, hrr⟩ : ∃ rr, rr = mkC F (form F (bitRows h n n) n) := ⟨_, rfl⟩
  rw [← hn] at hlen HMAT HL kA f0 HW ⊢
  rw [← hrr]
  obtain ⟨rp, rd, rx, ry, rz⟩ := rr
  have HRR := Lib.hid hrr
  clear hL hok hM hf hx hrows hmat hn hrr
  go_enter Try.func48, Try.ntmps48
  go_wp2_with fail
  rw [← HW.out]
  refine (unhide HL).mono ?_
  rintro e wv ⟨rfl, bv⟩
  clear f0
  go_wp2_with fail
  refine (unhide HM _).mono ?_
  rintro e w1 ⟨v1, rfl, o1, b1⟩
  obtain ⟨a1, c1, rfl, r1, _⟩ := o1.form
  obtain ⟨W1, hHF⟩ : ∃ z, z = w1.alloc (.cells #[.int .i64 F.p, .int .i64 F.k, .slice a1 F.poly.length c1] 26) := ⟨_, rfl⟩
  have bF : Below w1.heap.size w1 W1 := by rw [hHF]; exact (Below.refl _ _).alloc (Nat.le_refl _) _
  have kF : Blk W1 w1.heap.size 26 #[.int .i64 F.p, .int .i64 F.k, .slice a1 F.poly.length c1] := by rw [hHF]; exact Blk.new _ _ _ rfl
  have skF : w1.heap.size < W1.heap.size := kF.lt
  have HF := Lib.hid hHF
  clear hHF
  have b1' := Below.chain (Below.chain bv b1) bF
  have hb1 := b0.trans (b1'.mono (by omega))
  have k1 := k0.below b1' k0.lt
  have kA1 := kA.below b1' kA.lt
  have rF := r1.below bF
  have z1 := b1'.size
  have z1' : w.heap.size ≤ W1.heap.size := by omega
  have key : ∀ W, Below W1.heap.size W1 W → (Below W1.heap.size W1 W ∧ W.cell? ⟨w1.heap.size, 0, none⟩ = some (.int .i64 F.p) ∧ W.cell? ⟨w1.heap.size, 1, none⟩ = some (.int .i64 F.k) ∧ W.cell? ⟨w1.heap.size, 2, none⟩ = some (.slice a1 F.poly.length c1) ∧ W.cell? ⟨w.heap.size, 0, none⟩ = some (.slice ra n rc)) := fun W h => ⟨h, (kF.below h kF.lt).cell 0, (kF.below h kF.lt).cell 1, (kF.below h kF.lt).cell 2, (kA1.below h kA1.lt).cell 0⟩
  have BX := hide key
  have hsz0 := fun W => sizeS_any ra n rc W
  have HSZ := hide hsz0
  have hfi := fun W (hW : Below W1.heap.size W1 W) => filled_any w.heap.size ra rc n h W (kA1.below hW kA1.lt) (((unhide HX).below b1').below hW) HN.out (unhide HROWS) hlen.2
  have HFI := hide hfi
  have hrl := bitRows_len h n n
  have hco := fun (ra5 : Option Addr) (rc5 : Nat) W (hW : Below W1.heap.size W1 W) (hR : RdS W ra5 (bitRows h n n)) => codeOf_any F a1 c1 ra5 rc5 (bitRows h n n) n W (rF.below hW) hG hR (by rw [hrl]; omega) (unhide HMAT)
  obtain ⟨rows, hrw⟩ : ∃ rows, rows = bitRows h n n := ⟨_, rfl⟩
  rw [← hrw] at hrl hco hfi HFI HRR
  rw [← HRR.out] at hco
  have HCO := hide hco
  have HRL := Lib.hid hrl
  have K1 := hide k1
  clear r1 o1 kF b1 bF key hsz0 hfi hrl hco hrw rF kA1 kA k0 k1 bv
  go_upto_region 4 with fail
  rw [← HF.out]
  refine wp_region_noPanic ?_
  refine wp_region_until (S := (fun W => Below W1.heap.size W1 W ∧ W.cell? ⟨w1.heap.size, 0, none⟩ = some (.int .i64 F.p) ∧ W.cell? ⟨w1.heap.size, 1, none⟩ = some (.int .i64 F.k) ∧ W.cell? ⟨w1.heap.size, 2, none⟩ = some (.slice a1 F.poly.length c1) ∧ W.cell? ⟨w.heap.size, 0, none⟩ = some (.slice ra n rc))) 8 [(0, 0), (0, 1), (0, 3), (1, 2), (1, 4), (1, 5), (0, 6), (0, 7), (2, 8), (2, 9)] (by kernel_rfl) (by kernel_rfl) (by kernel_rfl) rfl (fun _ _ _ _ _ h => h) ?_ (fun hHeld => ?_)
  · exact (unhide BX) _ (Below.refl _ _).drew
  refine SeqU.take (by rfl) (v := ?hv10) (by rfl) ?hy10 ?hr10
  case hy10 =>
   intro w hSw
   try dsimp only at hSw
   go_simp
   try (with_reducible rfl)
  try simp only [Act.put, List.setIfInBounds_toArray, List.set_cons_zero, List.set_cons_succ]
  refine SeqU.take (by rfl) (v := ?hv11) (by rfl) ?hy11 ?hr11
  case hy11 =>
   intro w hSw
   try dsimp only at hSw
   go_simp
   try (with_reducible rfl)
  try simp only [Act.put, List.setIfInBounds_toArray, List.set_cons_zero, List.set_cons_succ]
  refine SeqU.take (by rfl) (v := ?hv12) (by rfl) ?hy12 ?hr12
  case hy12 =>
   intro w hSw
   try dsimp only at hSw
   go_simp
   try (with_reducible rfl)
  try simp only [Act.put, List.setIfInBounds_toArray, List.set_cons_zero, List.set_cons_succ]
  refine SeqU.call (by rfl) (fun K hK => ?_)
  go_simp
  refine ((unhide HSZ) _).mono ?_
  rintro e w2 ⟨rfl, rfl⟩
  refine hK.out _ _ ?_ (fun hHeld => ?_)
  · exact hHeld
  clear hK K
  try simp only [Act.put, List.setIfInBounds_toArray, List.set_cons_zero, List.set_cons_succ]
  refine SeqU.call (by rfl) (fun K hK => ?_)
  go_simp
  refine ((unhide HFI) _ (And.left hHeld)).mono ?_
  rintro e w3 ⟨v3, rfl, o3, b3⟩
  obtain ⟨a3, c3, rfl, r3⟩ := o3.form
  have d3 := Below.chain (And.left hHeld) b3
  have R3 := hide r3
  clear hHeld o3 r3
  refine hK.out _ _ ?_ (fun hHeld => ?_)
  · exact (unhide BX) _ d3
  clear hK K
  try simp only [Act.put, List.setIfInBounds_toArray, List.set_cons_zero, List.set_cons_succ]
  refine SeqU.call (by rfl) (fun K hK => ?_)
  go_simp
  refine ((unhide HCO) _ _ _ d3 (unhide R3)).mono ?_
  rintro e w4 ⟨v4, u4, rfl, o4, b4⟩
  simp only [] at o4 ⊢
  obtain ⟨a4, c4, p4, d4, rfl, rfl, _, _⟩ := o4.form
  have dd4 := Below.chain d3 b4
  have hb4 := hb1.trans (dd4.mono z1')
  have k4 := (unhide K1).below dd4 (unhide K1).lt
  have f0 := k4.cell 0
  have f1 := k4.cell 1
  have f2 := k4.cell 2
  have f3 := k4.cell 3
  have g0 := k4.frozen 0
  have g1 := k4.frozen 1
  have g2 := k4.frozen 2
  have g3 := k4.frozen 3
  have z3 := d3.size
  refine hK.out _ _ ?_ (fun hHeld => ?_)
  · exact (unhide BX) _ dd4
  clear hK K
  try simp only [Act.put, List.setIfInBounds_toArray, List.set_cons_zero, List.set_cons_succ]
  refine SeqU.take (by rfl) (v := ?hv13) (by rfl) ?hy13 ?hr13
  case hy13 =>
   intro w hSw
   try dsimp only at hSw
   go_simp
   try (with_reducible rfl)
  try simp only [Act.put, List.setIfInBounds_toArray, List.set_cons_zero, List.set_cons_succ]
  refine SeqU.take (by rfl) (v := ?hv14) (by rfl) ?hy14 ?hr14
  case hy14 =>
   intro w hSw
   try dsimp only at hSw
   go_simp
   try (with_reducible rfl)
  try simp only [Act.put, List.setIfInBounds_toArray, List.set_cons_zero, List.set_cons_succ]
  refine SeqU.last (by rfl) (fun K hK => ?_)
  go_simp
  skip
  refine hK.out _ _ ?_
  clear hK K
  try simp only [Act.put, List.setIfInBounds_toArray, List.set_cons_zero, List.set_cons_succ]
  refine SeqU.last (by rfl) (fun K hK => ?_)
  go_simp
  skip
  refine hK.out _ _ ?_
  clear hK K
  try simp only [Act.put, List.setIfInBounds_toArray, List.set_cons_zero, List.set_cons_succ]
  refine SeqU.done (NoPanic.normal ?_)
  have p3 : w.heap.size + 1 < w3.heap.size := by omega
  go_wp2_with fail
  refine bodyPost_ret (results_cell_tmp_row rfl _ _ (w.heap.size + 1) 29 #[.int .i64 rp, .int .i64 rd, .slice a4 rx.length c4, .slice p4 ry.length d4] _ rfl (k4.b4.store _ _ _ _) Try.underlying29 rfl (by kernel_rfl)) rfl ?_
  refine ⟨_, _, rfl, ?_, Below.set4 hb4 (by omega) _ _ _ _⟩
  exact ((((o4.storeBelow p3 _).storeBelow p3 _).storeBelow p3 _).storeBelow p3 _).mono (by omega)
theorem specCH2_any (ra : Option Addr) (rc : Nat) (h : List (List Int)) (w : World) (hx : RdS w ra h) (_ : h.length ≤ rc) : Calls Try.prog 46 #[.slice ra h.length rc] w (SpC w w.heap.size (hadRes h)) := specCH_any ra rc h w hx
theorem OwnSH.capL {w : World} {B hi n rc : Nat} {ra : Option Addr} {xss : List (List Int)} (h : OwnSH w B hi (.slice ra n rc) xss) : n ≤ rc := by
 obtain ⟨_, vs, hr, _⟩ := h
 rcases hr.2 with ⟨e, _⟩ | ⟨g, cap, cur, e, _, _, hnc, _⟩
 · injection e with e1 e2 e3
   omega
 · injection e with e1 e2 e3
   omega
end Go.Proofs.Ythalfobjeakfoaa
