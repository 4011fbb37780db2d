/-
  Texts joined.
-/
import Derived.Test.YtpglmogoddgmoaaJA1
import Derived.Test.YtpglmogoddgmoaaJA2
import Derived.Test.YtpglmogoddgmoaaJA5
import Derived.Test.YtpglmogoddgmoaaJA6
set_option linter.unusedVariables false
set_option linter.unusedSimpArgs false
set_option maxRecDepth 100000
set_option maxHeartbeats 40000000
namespace Go.Proofs.Ytpglmogoddgmoaa
open Go.RowKit
attribute [local go_sem ↓] Go.wp_at_zero Go.wp_at_succ
theorem l21Sorted_any (a : Option Addr) (c : Nat) (xs : List Int) (w : World) (hx : Rd w a xs) (hn : xs.length ≤ 1000000) :
    Calls Try.prog 102 #[.slice a xs.length c] w fun e w' => ∃ v, e = .returned v ∧ Own w' w.heap.size v (sortI xs) ∧ Below w.heap.size w w' := by
 have HX := hide hx
 clear hx
 go_enter Try.func102, Try.ntmps102
 go_wp2_with fail
 go_loopw [3, 4] (fun v3 iv wr => ∃ i : Nat, iv = .int .i64 i ∧ i ≤ xs.length ∧ Hid (Own wr w.heap.size v3 (sortI (xs.take i))) ∧ Below w.heap.size w wr) (fun _ iv _ => xs.length - (intOf iv).toNat)
 case atStart => exact ⟨0, rfl, Nat.zero_le _, by show Own _ _ _ _; rw [List.take_zero, show sortI ([] : List Int) = [] by simp [sortI]]; exact Own.empty w (Nat.le_refl _), (Below.refl _ _).alloc (Nat.le_refl _) _⟩
 case round =>
  obtain ⟨i, rfl, hi, ho, hb⟩ := hrel
  have hsz := hb.size
  by_cases hil : i < xs.length
  · obtain ⟨b1, o1, rfl, hbb, hcx⟩ := (unhide HX).at_ (by omega)
    have hx1 := (hb.cell (p := ⟨b1, o1 + i, none⟩) hbb).trans (hcx i hil)
    have hia := InsAt.start (x := nth xs i) (sortI_le (xs.take i)) (sortI_perm _)
    rw [← take_nth hil, sortI_len, List.length_take, Nat.min_eq_left hi] at hia
    obtain ⟨x, hxx⟩ : ∃ x, x = nth xs i := ⟨_, rfl⟩
    obtain ⟨S, hS⟩ : ∃ S, S = sortI (xs.take i) := ⟨_, rfl⟩
    have hSl : S.length = i := by rw [hS, sortI_len, List.length_take, Nat.min_eq_left hi]
    rw [← hxx] at hx1 hia
    rw [← hS] at ho hia
    have HIA := hide hia
    have HSL := Lib.hid hSl
    have hlt : ∀ u : Value, ∀ W : World, ∀ M : List Int, Own W w.heap.size u M → ∀ q, u.ownBlock = some q → w.heap.size ≤ q := fun u W M h q hq => (h.lt q hq).1
    have HLT := hide hlt
    obtain ⟨a3, c3, rfl, _, _⟩ := ho.out.form
    have O3 := hide ho.out
    rw [hSl] at O3 ⊢
    clear hcx hxx hS hSl hia hlt ho
    go_wp2_with (at_builtin; refine wpList_append_ints rfl (.tmp 16) (.tmp 21) rfl w.heap.size _ S [x] rfl ((unhide O3).alloc _) _ 1 1 rfl rfl (Rd.one wr x _) (by rw [HSL.out]; simp; omega) (by simp; omega) ?_; intro v5 w5 o5 g5 _)
    have b5 := (hb.alloc (by omega) (.cells #[.int .i64 x] 2)).grown g5 (by simp; omega) (fun q hq => unhide HLT _ _ _ (unhide O3) q hq)
    have O5 := hide o5
    have hL0 : (S ++ [x]).length = i + 1 := by rw [List.length_append, HSL.out]; rfl
    have HL0 := Lib.hid hL0
    rcases o5.slice_form with ⟨_, h0⟩ | ⟨g, cc, rfl, hBg, hg⟩
    · exact absurd hL0 (by rw [h0]; simp)
    rw [hL0] at O5 ⊢
    clear o5 g5 hL0
    go_loopw [5] (fun kv wr => ∃ k : Nat, ∃ L : List Int, kv = .int .i64 k ∧ k < i + 1 ∧ Hid (L.length = i + 1) ∧ Hid (InsAt L (xs.take (i + 1)) k) ∧ Hid (Own wr w.heap.size (.slice (some ⟨g, 0, none⟩) (i + 1) cc) L) ∧ Below w.heap.size w wr) (fun kv _ => (intOf kv).toNat)
    case atStart => exact ⟨i, S ++ [x], rfl, by omega, HL0, HIA, O5, b5⟩
    case round =>
     obtain ⟨k, L, rfl, hk, hl, hia, ho, hb⟩ := hrel
     have hsz := hb.size
     have HO := ho
     have HL := hl
     clear ho hl
     cases k with
     | zero =>
      have hso := hia.out.first
      have HSO := Lib.hid hso
      clear hso
      go_upto_region 7 with fail
      refine wp_region_noPanic ?_
      refine wp_region_seq (S := (fun W => True)) [true, true, true, true, true, true, true, true, true, true, true, true, true, true] (by kernel_rfl) (by kernel_rfl) (by kernel_rfl) rfl (fun _ _ _ _ _ h => h) ?_ (fun hHeld => ?_)
      · trivial
      simp only [List.toList_toArray]
      refine SeqH.take (v := ?hv1) (by rfl) ?hy1 ?hr1
      case hy1 =>
       intro w hSw
       try dsimp only at hSw
       go_simp
       try (with_reducible rfl)
      try simp only [Act.put, List.setIfInBounds_toArray, List.set_cons_zero, List.set_cons_succ]
      refine SeqH.take (v := ?hv2) (by rfl) ?hy2 ?hr2
      case hy2 =>
       intro w hSw
       try dsimp only at hSw
       go_simp
       try (with_reducible rfl)
      try simp only [Act.put, List.setIfInBounds_toArray, List.set_cons_zero, List.set_cons_succ]
      refine SeqH.take (v := ?hv3) (by rfl) ?hy3 ?hr3
      case hy3 =>
       intro w hSw
       try dsimp only at hSw
       go_simp
       try (with_reducible rfl)
      try simp only [Act.put, List.setIfInBounds_toArray, List.set_cons_zero, List.set_cons_succ]
      refine SeqH.skip (by rfl) ?_
      try simp only [Act.put, List.setIfInBounds_toArray, List.set_cons_zero, List.set_cons_succ]
      refine SeqH.skip (by rfl) ?_
      try simp only [Act.put, List.setIfInBounds_toArray, List.set_cons_zero, List.set_cons_succ]
      refine SeqH.skip (by rfl) ?_
      try simp only [Act.put, List.setIfInBounds_toArray, List.set_cons_zero, List.set_cons_succ]
      refine SeqH.skip (by rfl) ?_
      try simp only [Act.put, List.setIfInBounds_toArray, List.set_cons_zero, List.set_cons_succ]
      refine SeqH.skip (by rfl) ?_
      try simp only [Act.put, List.setIfInBounds_toArray, List.set_cons_zero, List.set_cons_succ]
      refine SeqH.skip (by rfl) ?_
      try simp only [Act.put, List.setIfInBounds_toArray, List.set_cons_zero, List.set_cons_succ]
      refine SeqH.skip (by rfl) ?_
      try simp only [Act.put, List.setIfInBounds_toArray, List.set_cons_zero, List.set_cons_succ]
      refine SeqH.skip (by rfl) ?_
      try simp only [Act.put, List.setIfInBounds_toArray, List.set_cons_zero, List.set_cons_succ]
      refine SeqH.skip (by rfl) ?_
      try simp only [Act.put, List.setIfInBounds_toArray, List.set_cons_zero, List.set_cons_succ]
      refine SeqH.skip (by rfl) ?_
      try simp only [Act.put, List.setIfInBounds_toArray, List.set_cons_zero, List.set_cons_succ]
      refine SeqH.take (v := ?hv4) (by rfl) ?hy4 ?hr4
      case hy4 =>
       intro w hSw
       try dsimp only at hSw
       go_simp
       try (with_reducible rfl)
      try simp only [Act.put, List.setIfInBounds_toArray, List.set_cons_zero, List.set_cons_succ]
      refine SeqH.done (NoPanic.normal ?_)
      go_wp2_with fail
      go_roundw
      case rel => exact ⟨i + 1, by go_num, by omega, by have h := unhide HO; rw [HSO.out] at h; exact h, hb.drew⟩
      case measure => simp only [intOf]; omega
     | succ m =>
      have c1 := (unhide HO).cell (j := m) (by rw [HL.out]; omega)
      have c2 := (unhide HO).cell (j := m + 1) (by rw [HL.out]; omega)
      have q1 := (unhide HO).frozen m
      have q2 := (unhide HO).frozen (m + 1)
      obtain ⟨y, hy⟩ : ∃ y, y = nth L m := ⟨_, rfl⟩
      obtain ⟨x, hx⟩ : ∃ x, x = nth L (m + 1) := ⟨_, rfl⟩
      rw [← hy] at c1
      rw [← hx] at c2
      have hwm : IntKind.i64.wrap (m : Int) = m := IntWalk.i64_in _ (by omega)
      have hmi : m < i + 1 := by omega
      have hmi2 : (m : Int) < (i : Int) + 1 := by omega
      have hmi3 : (m : Int) + 1 < (i : Int) + 1 := by omega
      have hmi4 : (m : Int) < (i : Int) := by omega
      have hmi5 : m < i := by omega
      have hmi6 : 0 ≤ (m : Int) + 1 := by omega
      by_cases hgt : x < y
      · have hsw := hia.out.swap (by rw [← hx, ← hy]; exact hgt)
        rw [← hx, ← hy] at hsw
        have os := ((unhide HO).set (m + 1) y).1
        have os2 := (os.set m x).1
        have gd : decide (x < y) = true := decide_eq_true hgt
        have cm : (wr.setCell ⟨g, m + 1, none⟩ (.int .i64 y)).cell? ⟨g, m, none⟩ = some (.int .i64 y) := by
         have h := os.cell (j := m) (by rw [List.length_set, HL.out]; omega)
         rw [h, nth, List.getD_eq_getElem?_getD, List.getElem?_set_ne (by omega), ← List.getD_eq_getElem?_getD]
         show some (Value.int .i64 (nth L m)) = _
         rw [← hy]
        have fm := os.frozen m
        have HSW := hide hsw
        have OS2 := hide os2
        have hll : ((L.set (m + 1) y).set m x).length = i + 1 := by rw [List.length_set, List.length_set, HL.out]
        have HLL := Lib.hid hll
        clear hy hx hsw os os2 hgt hll hia
        go_upto_region 7 with fail
        refine wp_region_noPanic ?_
        refine wp_region_seq (S := (fun W => W.cell? ⟨g, m, none⟩ = some (.int .i64 y) ∧ W.cell? ⟨g, m + 1, none⟩ = some (.int .i64 x))) [true, true, true, true, true, true, true, true, true, true, true, true, true, true] (by kernel_rfl) (by kernel_rfl) (by kernel_rfl) rfl (fun _ _ _ _ _ h => h) ?_ (fun hHeld => ?_)
        · exact ⟨c1, c2⟩
        simp only [List.toList_toArray]
        refine SeqH.take (v := ?hv5) (by rfl) ?hy5 ?hr5
        case hy5 =>
         intro w hSw
         try dsimp only at hSw
         go_simp
         try (with_reducible rfl)
        try simp only [Act.put, List.setIfInBounds_toArray, List.set_cons_zero, List.set_cons_succ]
        refine SeqH.take (v := ?hv6) (by rfl) ?hy6 ?hr6
        case hy6 =>
         intro w hSw
         try dsimp only at hSw
         go_simp
         try (with_reducible rfl)
        try simp only [Act.put, List.setIfInBounds_toArray, List.set_cons_zero, List.set_cons_succ]
        refine SeqH.take (v := ?hv7) (by rfl) ?hy7 ?hr7
        case hy7 =>
         intro w hSw
         try dsimp only at hSw
         go_simp
         try (with_reducible rfl)
        try simp only [Act.put, List.setIfInBounds_toArray, List.set_cons_zero, List.set_cons_succ]
        refine SeqH.take (v := ?hv8) (by rfl) ?hy8 ?hr8
        case hy8 =>
         intro w hSw
         try dsimp only at hSw
         go_simp
         try (with_reducible rfl)
        try simp only [Act.put, List.setIfInBounds_toArray, List.set_cons_zero, List.set_cons_succ]
        refine SeqH.take (v := ?hv9) (by rfl) ?hy9 ?hr9
        case hy9 =>
         intro w hSw
         try dsimp only at hSw
         go_simp
         try (with_reducible rfl)
        try simp only [Act.put, List.setIfInBounds_toArray, List.set_cons_zero, List.set_cons_succ]
        refine SeqH.take (v := ?hv10) (by rfl) ?hy10 ?hr10
        case hy10 =>
         intro w hSw
         try dsimp only at hSw
         go_simp
         try (with_reducible rfl)
        try simp only [Act.put, List.setIfInBounds_toArray, List.set_cons_zero, List.set_cons_succ]
        refine SeqH.take (v := ?hv11) (by rfl) ?hy11 ?hr11
        case hy11 =>
         intro w hSw
         try dsimp only at hSw
         go_simp
         try (with_reducible rfl)
        try simp only [Act.put, List.setIfInBounds_toArray, List.set_cons_zero, List.set_cons_succ]
        refine SeqH.take (v := ?hv12) (by rfl) ?hy12 ?hr12
        case hy12 =>
         intro w hSw
         try dsimp only at hSw
         go_simp
         try (with_reducible rfl)
        try simp only [Act.put, List.setIfInBounds_toArray, List.set_cons_zero, List.set_cons_succ]
        refine SeqH.take (v := ?hv13) (by rfl) ?hy13 ?hr13
        case hy13 =>
         intro w hSw
         try dsimp only at hSw
         go_simp
         try (with_reducible rfl)
        try simp only [Act.put, List.setIfInBounds_toArray, List.set_cons_zero, List.set_cons_succ]
        refine SeqH.take (v := ?hv14) (by rfl) ?hy14 ?hr14
        case hy14 =>
         intro w hSw
         try dsimp only at hSw
         go_simp
         try (with_reducible rfl)
        try simp only [Act.put, List.setIfInBounds_toArray, List.set_cons_zero, List.set_cons_succ]
        refine SeqH.take (v := ?hv15) (by rfl) ?hy15 ?hr15
        case hy15 =>
         intro w hSw
         try dsimp only at hSw
         go_simp
         try (with_reducible rfl)
        try simp only [Act.put, List.setIfInBounds_toArray, List.set_cons_zero, List.set_cons_succ]
        refine SeqH.take (v := ?hv16) (by rfl) ?hy16 ?hr16
        case hy16 =>
         intro w hSw
         try dsimp only at hSw
         go_simp
         try (with_reducible rfl)
        try simp only [Act.put, List.setIfInBounds_toArray, List.set_cons_zero, List.set_cons_succ]
        refine SeqH.take (v := ?hv17) (by rfl) ?hy17 ?hr17
        case hy17 =>
         intro w hSw
         try dsimp only at hSw
         go_simp
         try (with_reducible rfl)
        try simp only [Act.put, List.setIfInBounds_toArray, List.set_cons_zero, List.set_cons_succ]
        refine SeqH.take (v := ?hv18) (by rfl) ?hy18 ?hr18
        case hy18 =>
         intro w hSw
         try dsimp only at hSw
         go_simp
         try (with_reducible rfl)
        try simp only [Act.put, List.setIfInBounds_toArray, List.set_cons_zero, List.set_cons_succ]
        refine SeqH.done (NoPanic.normal ?_)
        go_wp2_with fail
        go_roundw
        case rel => exact ⟨m, (L.set (m + 1) y).set m x, by go_num, by omega, HLL, HSW, OS2, ((hb.setCell (p := ⟨g, m + 1, none⟩) hBg _).setCell (p := ⟨g, m, none⟩) hBg _).drew⟩
        case measure => simp only [intOf]; omega
      · have hso := hia.out.done (by rw [← hx, ← hy]; omega)
        have HSO := Lib.hid hso
        have gd : decide (x < y) = false := by rw [decide_eq_false_iff_not]; exact hgt
        clear hy hx hso hgt hia
        go_upto_region 7 with fail
        refine wp_region_noPanic ?_
        refine wp_region_seq (S := (fun W => W.cell? ⟨g, m, none⟩ = some (.int .i64 y) ∧ W.cell? ⟨g, m + 1, none⟩ = some (.int .i64 x))) [true, true, true, true, true, true, true, true, true, true, true, true, true, true] (by kernel_rfl) (by kernel_rfl) (by kernel_rfl) rfl (fun _ _ _ _ _ h => h) ?_ (fun hHeld => ?_)
        · exact ⟨c1, c2⟩
        simp only [List.toList_toArray]
        refine SeqH.take (v := ?hv19) (by rfl) ?hy19 ?hr19
        case hy19 =>
         intro w hSw
         try dsimp only at hSw
         go_simp
         try (with_reducible rfl)
        try simp only [Act.put, List.setIfInBounds_toArray, List.set_cons_zero, List.set_cons_succ]
        refine SeqH.take (v := ?hv20) (by rfl) ?hy20 ?hr20
        case hy20 =>
         intro w hSw
         try dsimp only at hSw
         go_simp
         try (with_reducible rfl)
        try simp only [Act.put, List.setIfInBounds_toArray, List.set_cons_zero, List.set_cons_succ]
        refine SeqH.take (v := ?hv21) (by rfl) ?hy21 ?hr21
        case hy21 =>
         intro w hSw
         try dsimp only at hSw
         go_simp
         try (with_reducible rfl)
        try simp only [Act.put, List.setIfInBounds_toArray, List.set_cons_zero, List.set_cons_succ]
        refine SeqH.take (v := ?hv22) (by rfl) ?hy22 ?hr22
        case hy22 =>
         intro w hSw
         try dsimp only at hSw
         go_simp
         try (with_reducible rfl)
        try simp only [Act.put, List.setIfInBounds_toArray, List.set_cons_zero, List.set_cons_succ]
        refine SeqH.take (v := ?hv23) (by rfl) ?hy23 ?hr23
        case hy23 =>
         intro w hSw
         try dsimp only at hSw
         go_simp
         try (with_reducible rfl)
        try simp only [Act.put, List.setIfInBounds_toArray, List.set_cons_zero, List.set_cons_succ]
        refine SeqH.take (v := ?hv24) (by rfl) ?hy24 ?hr24
        case hy24 =>
         intro w hSw
         try dsimp only at hSw
         go_simp
         try (with_reducible rfl)
        try simp only [Act.put, List.setIfInBounds_toArray, List.set_cons_zero, List.set_cons_succ]
        refine SeqH.take (v := ?hv25) (by rfl) ?hy25 ?hr25
        case hy25 =>
         intro w hSw
         try dsimp only at hSw
         go_simp
         try (with_reducible rfl)
        try simp only [Act.put, List.setIfInBounds_toArray, List.set_cons_zero, List.set_cons_succ]
        refine SeqH.take (v := ?hv26) (by rfl) ?hy26 ?hr26
        case hy26 =>
         intro w hSw
         try dsimp only at hSw
         go_simp
         try (with_reducible rfl)
        try simp only [Act.put, List.setIfInBounds_toArray, List.set_cons_zero, List.set_cons_succ]
        refine SeqH.take (v := ?hv27) (by rfl) ?hy27 ?hr27
        case hy27 =>
         intro w hSw
         try dsimp only at hSw
         go_simp
         try (with_reducible rfl)
        try simp only [Act.put, List.setIfInBounds_toArray, List.set_cons_zero, List.set_cons_succ]
        refine SeqH.take (v := ?hv28) (by rfl) ?hy28 ?hr28
        case hy28 =>
         intro w hSw
         try dsimp only at hSw
         go_simp
         try (with_reducible rfl)
        try simp only [Act.put, List.setIfInBounds_toArray, List.set_cons_zero, List.set_cons_succ]
        refine SeqH.take (v := ?hv29) (by rfl) ?hy29 ?hr29
        case hy29 =>
         intro w hSw
         try dsimp only at hSw
         go_simp
         try (with_reducible rfl)
        try simp only [Act.put, List.setIfInBounds_toArray, List.set_cons_zero, List.set_cons_succ]
        refine SeqH.take (v := ?hv30) (by rfl) ?hy30 ?hr30
        case hy30 =>
         intro w hSw
         try dsimp only at hSw
         go_simp
         try (with_reducible rfl)
        try simp only [Act.put, List.setIfInBounds_toArray, List.set_cons_zero, List.set_cons_succ]
        refine SeqH.take (v := ?hv31) (by rfl) ?hy31 ?hr31
        case hy31 =>
         intro w hSw
         try dsimp only at hSw
         go_simp
         try (with_reducible rfl)
        try simp only [Act.put, List.setIfInBounds_toArray, List.set_cons_zero, List.set_cons_succ]
        refine SeqH.take (v := ?hv32) (by rfl) ?hy32 ?hr32
        case hy32 =>
         intro w hSw
         try dsimp only at hSw
         go_simp
         try (with_reducible rfl)
        try simp only [Act.put, List.setIfInBounds_toArray, List.set_cons_zero, List.set_cons_succ]
        refine SeqH.done (NoPanic.normal ?_)
        go_wp2_with fail
        go_roundw
        case rel => exact ⟨i + 1, by go_num, by omega, by have h := unhide HO; rw [HSO.out] at h; exact h, hb.drew⟩
        case measure => simp only [intOf]; omega
  · have hie : i = xs.length := by omega
    have hoo := ho.out
    rw [hie, List.take_length] at hoo
    have OO := hide hoo
    clear hie hoo ho
    go_wp2_with fail
    go_ret
    exact ⟨_, rfl, unhide OO, hb⟩
end Go.Proofs.Ytpglmogoddgmoaa
namespace Go.Proofs.Ytpglmogoddgmoaa
open Go.RowKit
attribute [local go_sem ↓] Go.wp_at_zero Go.wp_at_succ
def InE (n : Nat) (es : List (Int × Int)) : Prop := ∀ e ∈ es, 0 ≤ e.1 ∧ e.1 < n ∧ 0 ≤ e.2 ∧ e.2 < n
theorem InE.at_ {n : Nat} {es : List (Int × Int)} (h : InE n es) {k : Nat} (hk : k < es.length) : ∃ x y : Nat, nthE es k = ((x : Int), (y : Int)) ∧ x < n ∧ y < n := by
 obtain ⟨h1, h2, h3, h4⟩ := h _ (nthE_mem hk)
 refine ⟨(nthE es k).1.toNat, (nthE es k).2.toNat, ?_, by omega, by omega⟩
 rw [Int.toNat_of_nonneg h1, Int.toNat_of_nonneg h3]
theorem take_nthE {es : List (Int × Int)} {k : Nat} (h : k < es.length) : es.take (k + 1) = es.take k ++ [nthE es k] := by
 rw [List.take_add_one, nthE_lt h, List.getElem?_eq_getElem h]; rfl
theorem TabB.addr {w : World} {B k n c m : Nat} {a : Option Addr} {T : Nat → Nat → Bool} (h : TabB w B (.slice a m c) k n T) (hk : 0 < k) : m = k ∧ ∃ g, a = some ⟨g, 0, none⟩ ∧ B ≤ g ∧ g < w.heap.size := by
 have hl := h.lt
 obtain ⟨f, h1, _⟩ := h
 rcases h1.2 with ⟨_, h0⟩ | ⟨g, cap, cur, e, _⟩
 · omega
 · injection e with e1 e2 e3
   subst e1
   exact ⟨e2, g, rfl, hl g rfl⟩
theorem TabB.put2 {w : World} {B g c n : Nat} {T : Nat → Nat → Bool} {x y : Nat} (h : TabB w B (.slice (some ⟨g, 0, none⟩) n c) n n T) (hx : x < n) (hy : y < n) :
    ∃ q r, w.cell? ⟨g, x, none⟩ = some (.slice (some ⟨q, 0, none⟩) n n) ∧ w.cell? ⟨q, y, none⟩ = some (.bool (T x y)) ∧ w.frozen? ⟨q, y, none⟩ = false ∧ g ≠ q ∧ B ≤ q ∧ q < w.heap.size ∧
     w.cell? ⟨g, y, none⟩ = some (.slice (some ⟨r, 0, none⟩) n n) ∧ (∃ u, (w.setCell ⟨q, y, none⟩ (.bool true)).cell? ⟨r, x, none⟩ = some u) ∧ (w.setCell ⟨q, y, none⟩ (.bool true)).frozen? ⟨r, x, none⟩ = false ∧ g ≠ r ∧ B ≤ r ∧ r < w.heap.size ∧
     TabB ((w.setCell ⟨q, y, none⟩ (.bool true)).setCell ⟨r, x, none⟩ (.bool true)) B (.slice (some ⟨g, 0, none⟩) n c) n n (putT T x y) := by
 obtain ⟨q, c1, c2, f1, hB, hq, hgq, hput⟩ := h.at_ hx hy
 have h1 := hput true
 obtain ⟨r, d1, d2, f2, hBr, hr, hgr, hput2⟩ := h1.at_ hy hx
 have h2 := hput2 true
 have d1' : w.cell? ⟨g, y, none⟩ = some (.slice (some ⟨r, 0, none⟩) n n) := by
  rw [← d1]; exact (cell_block (Below.heap_setCell w ⟨q, y, none⟩ _ g hgq) _).symm
 refine ⟨q, r, c1, c2, f1, hgq, hB, hq, d1', ⟨_, d2⟩, f2, hgr, hBr, by simpa using hr, h2.congr fun i j hi hj => ?_⟩
 rw [putT]
 by_cases e1 : i = y ∧ j = x
 · rw [if_pos e1]; simp [e1.1, e1.2]
 · rw [if_neg e1]
   by_cases e2 : i = x ∧ j = y
   · rw [if_pos e2]; simp [e2.1, e2.2]
   · rw [if_neg e2]
     have a1 : (i == x && j == y) = false := by
      rw [Bool.and_eq_false_iff, beq_eq_false_iff_ne, beq_eq_false_iff_ne]; omega
     have a2 : (i == y && j == x) = false := by
      rw [Bool.and_eq_false_iff, beq_eq_false_iff_ne, beq_eq_false_iff_ne]; omega
     rw [a1, a2]; simp
theorem l21Table_any (a : Option Addr) (n c : Nat) (ra : Option Addr) (rc : Nat) (es : List (Int × Int)) (w : World) (hn : n ≤ 1000000) (hes : RdE w ra es) (hin : InE n es) :
    Calls Try.prog 161 #[.agg #[.slice a n c, .slice ra es.length rc]] w fun e w' => ∃ v, e = .returned v ∧ TabB w' w.heap.size v n n (adjE es) ∧ Below w.heap.size w w' := by
 have hel := hes.len
 obtain ⟨w0, hw0⟩ : ∃ w0, w0 = w.alloc (.cells #[.slice a n c, .slice ra es.length rc] 74) := ⟨_, rfl⟩
 have hb0 : Below w.heap.size w w0 := by rw [hw0]; exact (Below.refl _ _).alloc (Nat.le_refl _) _
 have kA : Blk w0 w.heap.size 74 #[.slice a n c, .slice ra es.length rc] := by rw [hw0]; exact Blk.new _ _ _ rfl
 have s0 : w0.heap.size = w.heap.size + 1 := by rw [hw0]; simp
 have hes0 := hes.below hb0
 have hmk := fun W => run_make_row' (P := Try.prog) 165 4 (.bool false) 1 Try.underlying165 Try.info_bool rfl .i64 .i64 n (by omega) (by omega) W
 have f0 := kA.cell 0
 have f1 := kA.cell 1
 obtain ⟨W1, hW1⟩ : ∃ z, z = w0.alloc (.cells #[] 165) := ⟨_, rfl⟩
 have tz : TabB W1 (w.heap.size + 1) (.slice (some ⟨w.heap.size + 1, 0, none⟩) 0 0) 0 n (fun _ _ => false) := by rw [hW1, ← s0]; exact TabB.empty w0 (Nat.le_refl _) n _
 have bz : Below w0.heap.size w0 W1 := by rw [hW1]; exact (Below.refl _ _).alloc (Nat.le_refl _) _
 have BA := hide (show ∀ W, Below w0.heap.size w0 W → Blk W w.heap.size 74 #[.slice a n c, .slice ra es.length rc] from fun W h => kA.below h kA.lt)
 have HES := hide hes0
 have HIN := hide hin
 have TZ := hide tz
 rw [hw0] at f0 f1
 rw [hw0] at hW1
 have HW1 := Lib.hid hW1
 have HW := Lib.hid hw0
 clear hW1 hw0 hes hes0 hin tz
 go_enter Try.func161, Try.ntmps161
 go_wp2_with fail
 rw [← HW1.out]
 go_loopw [4, 5] (fun v iv wr => ∃ k : Nat, iv = .int .i64 k ∧ k ≤ n ∧ Hid (TabB wr (w.heap.size + 1) v k n (fun _ _ => false)) ∧ Below w0.heap.size w0 wr) (fun _ iv _ => n - (intOf iv).toNat)
 case atStart => exact ⟨0, rfl, Nat.zero_le _, unhide TZ, bz⟩
 case round =>
  obtain ⟨k, rfl, hk, ht, hb⟩ := hrel
  have hsz := hb.size
  by_cases hkn : k < n
  · go_wp2_with (at_builtin; refine wpList_append_brow rfl (.tmp 17) (.tmp 20) rfl rfl ht.out (by omega) (fun _ _ => rfl) (wr.heap.size + 1) wr.heap.size rfl (((Below.refl _ _).alloc (Nat.le_refl _) _).alloc (by simp) _) (Nat.le_refl _) ((World.rowIs_made wr (.bool false) n 4).of_block (Below.heap_alloc _ _ _ (by simp))) ((Blk.new _ 165 #[.slice (some ⟨wr.heap.size, 0, none⟩) n n] (by simp)).cell 0) (by omega) ?_; intro v7 w7 o7 g7)
    go_roundw
    case rel => exact ⟨k + 1, by go_num, by omega, o7, ((hb.alloc (by omega) _).alloc (by simp; omega) _).grown g7 (by simp; omega) (fun q hq => by have := (ht.out.lt q hq).1; omega)⟩
    case measure => simp only [intOf]; omega
  · have hkn : k = n := by omega
    subst hkn
    have hto := ht.out
    obtain ⟨va, vc, rfl⟩ := hto.form
    have T0 := hide (show TabB wr (w.heap.size + 1) (.slice va k vc) k k (adjE (es.take 0)) from hto.congr fun i j _ _ => rfl)
    obtain ⟨wt, hwt⟩ : ∃ z, z = wr := ⟨_, rfl⟩
    have k1 := unhide BA wr hb
    have f0 := k1.cell 0
    have f1 := k1.cell 1
    clear ht hto hmk
    go_wp2_with fail
    go_loopw [6] (fun iv wr => ∃ i : Nat, iv = .int .i64 i ∧ i ≤ es.length ∧ Hid (TabB wr (w.heap.size + 1) (.slice va k vc) k k (adjE (es.take i))) ∧ Below w0.heap.size w0 wr) (fun iv _ => es.length - (intOf iv).toNat)
    case atStart => exact ⟨0, rfl, Nat.zero_le _, T0, hb⟩
    case round =>
     obtain ⟨i, rfl, hi, ht, hb⟩ := hrel
     have hsz := hb.size
     have k1 := unhide BA wr hb
     clear f0 f1
     have f0 := k1.cell 0
     have f1 := k1.cell 1
     by_cases hil : i < es.length
     · obtain ⟨x, y, hxy, hx, hy⟩ := (unhide HIN).at_ hil
       obtain ⟨b1, o1, rfl, hbb, hcx⟩ := (unhide HES).at_ (by omega)
       obtain ⟨hx1, hx2⟩ := hcx i hil
       rw [hxy] at hx1 hx2
       simp only at hx1 hx2
       have hx1 := (hb.cell (p := ⟨b1, o1 + i * 2, none⟩) hbb).trans hx1
       have hx2 := (hb.cell (p := ⟨b1, o1 + i * 2 + 1, none⟩) hbb).trans hx2
       obtain ⟨_, g, rfl, hBg, hg⟩ := ht.out.addr (by omega)
       have hst : adjE (es.take (i + 1)) = putT (adjE (es.take i)) x y := by rw [take_nthE hil, hxy, adjE_snoc]
       have HST := Lib.hid hst
       obtain ⟨wE, hwE⟩ : ∃ wE, wE = wr.alloc (.cells #[.int .i64 (x : Int), .int .i64 (y : Int)] 161) := ⟨_, rfl⟩
       have hbE : Below wr.heap.size wr wE := by rw [hwE]; exact (Below.refl _ _).alloc (Nat.le_refl _) _
       have kE : Blk wE wr.heap.size 161 #[.int .i64 (x : Int), .int .i64 (y : Int)] := by rw [hwE]; exact Blk.new _ _ _ rfl
       have tE := ht.out.below hbE
       obtain ⟨q, r, c1, c2, q1, hgq, hBq, hq, d1, ⟨u, d2⟩, q2, hgr, hBr, hr, hfin⟩ := tE.put2 hx hy
       have FIN := hide hfin
       have hbE0 : Below w0.heap.size w0 wE := hb.trans (hbE.mono hsz)
       have e0 := kE.cell 0
       have e1 := kE.cell 1
       obtain ⟨q', c1', _, _, _, hq', _⟩ := ht.out.at_ hx hy
       obtain ⟨r', d1', _, _, _, hr', _⟩ := ht.out.at_ hy hx
       have hqn : q < wr.heap.size := by
        have e := (hbE.cell (p := ⟨g, x, none⟩) hg).trans c1'
        rw [c1] at e
        injection e with e
        injection e with e
        injection e with e
        injection e with e
        omega
       have hrn : r < wr.heap.size := by
        have e := (hbE.cell (p := ⟨g, y, none⟩) hg).trans d1'
        rw [d1] at e
        injection e with e
        injection e with e
        injection e with e
        injection e with e
        omega
       have HWE := Lib.hid hwE
       clear hwE hcx hst tE hfin hxy c1' d1' hq' hr' hq hr
       go_upto_region 11 with fail
       rw [← HWE.out]
       refine wp_region_noPanic ?_
       refine wp_region_seq (S := (fun W => W.cell? ⟨wr.heap.size, 0, none⟩ = some (.int .i64 (x : Int)) ∧ W.cell? ⟨wr.heap.size, 1, none⟩ = some (.int .i64 (y : Int)) ∧ W.cell? ⟨g, x, none⟩ = some (.slice (some ⟨q, 0, none⟩) k k))) [true, true, true, true, true, true, true, true, false] (by kernel_rfl) (by kernel_rfl) (by kernel_rfl) rfl (fun _ _ _ _ _ h => h) ?_ (fun hHeld => ?_)
       · exact ⟨e0, e1, c1⟩
       simp only [List.toList_toArray]
       refine SeqH.take (v := ?hv1) (by rfl) ?hy1 ?hr1
       case hy1 =>
        intro w hSw
        try dsimp only at hSw
        go_simp
        try (with_reducible rfl)
       try simp only [Act.put, List.setIfInBounds_toArray, List.set_cons_zero, List.set_cons_succ]
       refine SeqH.take (v := ?hv2) (by rfl) ?hy2 ?hr2
       case hy2 =>
        intro w hSw
        try dsimp only at hSw
        go_simp
        try (with_reducible rfl)
       try simp only [Act.put, List.setIfInBounds_toArray, List.set_cons_zero, List.set_cons_succ]
       refine SeqH.take (v := ?hv3) (by rfl) ?hy3 ?hr3
       case hy3 =>
        intro w hSw
        try dsimp only at hSw
        go_simp
        try (with_reducible rfl)
       try simp only [Act.put, List.setIfInBounds_toArray, List.set_cons_zero, List.set_cons_succ]
       refine SeqH.take (v := ?hv4) (by rfl) ?hy4 ?hr4
       case hy4 =>
        intro w hSw
        try dsimp only at hSw
        go_simp
        try (with_reducible rfl)
       try simp only [Act.put, List.setIfInBounds_toArray, List.set_cons_zero, List.set_cons_succ]
       refine SeqH.take (v := ?hv5) (by rfl) ?hy5 ?hr5
       case hy5 =>
        intro w hSw
        try dsimp only at hSw
        go_simp
        try (with_reducible rfl)
       try simp only [Act.put, List.setIfInBounds_toArray, List.set_cons_zero, List.set_cons_succ]
       refine SeqH.take (v := ?hv6) (by rfl) ?hy6 ?hr6
       case hy6 =>
        intro w hSw
        try dsimp only at hSw
        go_simp
        try (with_reducible rfl)
       try simp only [Act.put, List.setIfInBounds_toArray, List.set_cons_zero, List.set_cons_succ]
       refine SeqH.take (v := ?hv7) (by rfl) ?hy7 ?hr7
       case hy7 =>
        intro w hSw
        try dsimp only at hSw
        go_simp
        try (with_reducible rfl)
       try simp only [Act.put, List.setIfInBounds_toArray, List.set_cons_zero, List.set_cons_succ]
       refine SeqH.take (v := ?hv8) (by rfl) ?hy8 ?hr8
       case hy8 =>
        intro w hSw
        try dsimp only at hSw
        go_simp
        try (with_reducible rfl)
       try simp only [Act.put, List.setIfInBounds_toArray, List.set_cons_zero, List.set_cons_succ]
       refine SeqH.call (fun K hK => ?_)
       go_simp
       skip
       refine hK.out _ _ ?_ (fun hHeld => ?_)
       · exact ⟨(cell_block (Below.heap_setCell wE ⟨q, y, none⟩ _ wr.heap.size (by show wr.heap.size ≠ q; omega)) 0).trans e0, (cell_block (Below.heap_setCell wE ⟨q, y, none⟩ _ wr.heap.size (by show wr.heap.size ≠ q; omega)) 1).trans e1, (cell_block (Below.heap_setCell wE ⟨q, y, none⟩ _ g hgq) x).trans c1⟩
       clear hK K
       try simp only [Act.put, List.setIfInBounds_toArray, List.set_cons_zero, List.set_cons_succ]
       refine SeqH.done (NoPanic.normal ?_)
       obtain ⟨w5, hw5⟩ : ∃ z, z = wE.setCell ⟨q, y, none⟩ (.bool true) := ⟨_, rfl⟩
       have e0 : w5.cell? ⟨wr.heap.size, 0, none⟩ = some (.int .i64 (x : Int)) := by rw [hw5]; exact (cell_block (Below.heap_setCell wE ⟨q, y, none⟩ _ wr.heap.size (by show wr.heap.size ≠ q; omega)) 0).trans e0
       have e1 : w5.cell? ⟨wr.heap.size, 1, none⟩ = some (.int .i64 (y : Int)) := by rw [hw5]; exact (cell_block (Below.heap_setCell wE ⟨q, y, none⟩ _ wr.heap.size (by show wr.heap.size ≠ q; omega)) 1).trans e1
       have d1 : w5.cell? ⟨g, y, none⟩ = some (.slice (some ⟨r, 0, none⟩) k k) := by rw [hw5]; exact (cell_block (Below.heap_setCell wE ⟨q, y, none⟩ _ g hgq) y).trans d1
       rw [← hw5] at d2 q2 FIN ⊢
       have hb5 : Below w0.heap.size w0 w5 := by rw [hw5]; exact hbE0.setCell (p := ⟨q, y, none⟩) (by show w0.heap.size ≤ q; omega) _
       clear hw5
       go_upto_region 12 with fail
       refine wp_region_noPanic ?_
       refine wp_region_seq (S := (fun W => W.cell? ⟨wr.heap.size, 0, none⟩ = some (.int .i64 (x : Int)) ∧ W.cell? ⟨wr.heap.size, 1, none⟩ = some (.int .i64 (y : Int)) ∧ W.cell? ⟨g, y, none⟩ = some (.slice (some ⟨r, 0, none⟩) k k))) [true, true, true, true, true, true, true, true, false] (by kernel_rfl) (by kernel_rfl) (by kernel_rfl) rfl (fun _ _ _ _ _ h => h) ?_ (fun hHeld => ?_)
       · exact ⟨e0, e1, d1⟩
       simp only [List.toList_toArray]
       refine SeqH.take (v := ?hv9) (by rfl) ?hy9 ?hr9
       case hy9 =>
        intro w hSw
        try dsimp only at hSw
        go_simp
        try (with_reducible rfl)
       try simp only [Act.put, List.setIfInBounds_toArray, List.set_cons_zero, List.set_cons_succ]
       refine SeqH.take (v := ?hv10) (by rfl) ?hy10 ?hr10
       case hy10 =>
        intro w hSw
        try dsimp only at hSw
        go_simp
        try (with_reducible rfl)
       try simp only [Act.put, List.setIfInBounds_toArray, List.set_cons_zero, List.set_cons_succ]
       refine SeqH.take (v := ?hv11) (by rfl) ?hy11 ?hr11
       case hy11 =>
        intro w hSw
        try dsimp only at hSw
        go_simp
        try (with_reducible rfl)
       try simp only [Act.put, List.setIfInBounds_toArray, List.set_cons_zero, List.set_cons_succ]
       refine SeqH.take (v := ?hv12) (by rfl) ?hy12 ?hr12
       case hy12 =>
        intro w hSw
        try dsimp only at hSw
        go_simp
        try (with_reducible rfl)
       try simp only [Act.put, List.setIfInBounds_toArray, List.set_cons_zero, List.set_cons_succ]
       refine SeqH.take (v := ?hv13) (by rfl) ?hy13 ?hr13
       case hy13 =>
        intro w hSw
        try dsimp only at hSw
        go_simp
        try (with_reducible rfl)
       try simp only [Act.put, List.setIfInBounds_toArray, List.set_cons_zero, List.set_cons_succ]
       refine SeqH.take (v := ?hv14) (by rfl) ?hy14 ?hr14
       case hy14 =>
        intro w hSw
        try dsimp only at hSw
        go_simp
        try (with_reducible rfl)
       try simp only [Act.put, List.setIfInBounds_toArray, List.set_cons_zero, List.set_cons_succ]
       refine SeqH.take (v := ?hv15) (by rfl) ?hy15 ?hr15
       case hy15 =>
        intro w hSw
        try dsimp only at hSw
        go_simp
        try (with_reducible rfl)
       try simp only [Act.put, List.setIfInBounds_toArray, List.set_cons_zero, List.set_cons_succ]
       refine SeqH.take (v := ?hv16) (by rfl) ?hy16 ?hr16
       case hy16 =>
        intro w hSw
        try dsimp only at hSw
        go_simp
        try (with_reducible rfl)
       try simp only [Act.put, List.setIfInBounds_toArray, List.set_cons_zero, List.set_cons_succ]
       refine SeqH.call (fun K hK => ?_)
       go_simp
       skip
       refine hK.out _ _ ?_ (fun hHeld => ?_)
       · exact ⟨(cell_block (Below.heap_setCell w5 ⟨r, x, none⟩ _ wr.heap.size (by show wr.heap.size ≠ r; omega)) 0).trans e0, (cell_block (Below.heap_setCell w5 ⟨r, x, none⟩ _ wr.heap.size (by show wr.heap.size ≠ r; omega)) 1).trans e1, (cell_block (Below.heap_setCell w5 ⟨r, x, none⟩ _ g hgr) y).trans d1⟩
       clear hK K
       try simp only [Act.put, List.setIfInBounds_toArray, List.set_cons_zero, List.set_cons_succ]
       refine SeqH.done (NoPanic.normal ?_)
       go_wp2_with fail
       go_roundw
       case rel =>
        refine ⟨i + 1, by go_num, by omega, ?_, ?_⟩
        · show TabB _ _ _ _ _ _
          rw [HST.out]
          exact unhide FIN
        · exact ((hb5.setCell (p := ⟨r, x, none⟩) (by show w0.heap.size ≤ r; omega) _).drew).drew
       case measure => simp only [intOf]; omega
     · have hke : i = es.length := by omega
       have HK := Lib.hid hke
       clear hke
       go_wp2_with fail
       go_ret
       exact ⟨_, rfl, by have h := ht.out; rw [HK.out, List.take_length] at h; exact h.mono (by omega), hb0.trans (hb.mono (by omega))⟩
end Go.Proofs.Ytpglmogoddgmoaa
namespace Go.Proofs.Ytpglmogoddgmoaa
open Go.RowKit
attribute [local go_sem ↓] Go.wp_at_zero Go.wp_at_succ
def nearA (n : Nat) (T : Nat → Nat → Bool) (k : Nat) : List (List Int) := (List.range k).map (nearT n T)
theorem nearA_len (n : Nat) (T : Nat → Nat → Bool) (k : Nat) : (nearA n T k).length = k := by simp [nearA]
theorem nearA_succ (n : Nat) (T : Nat → Nat → Bool) (k : Nat) : nearA n T (k + 1) = nearA n T k ++ [nearT n T k] := by simp [nearA, List.range_succ]
theorem nearA_nth {n k v : Nat} (T : Nat → Nat → Bool) (h : v < k) : nthL (nearA n T k) v = nearT n T v := by simp [nearA, nthL, h]
theorem OwnSH.inV {w : World} {B hi : Nat} {v : Value} {xss : List (List Int)} (h : OwnSH w B hi v xss) : In v B hi := by
 obtain ⟨_, _, _, _, hv, _⟩ := h
 exact hv
theorem l21Near_any (a : Option Addr) (n c : Nat) (ra : Option Addr) (rc : Nat) (es : List (Int × Int)) (w : World) (hn : n ≤ 1000000) (hes : RdE w ra es) (hin : InE n es) :
    Calls Try.prog 100 #[.agg #[.slice a n c, .slice ra es.length rc]] w fun e w' => ∃ v, e = .returned v ∧ OwnS w' w.heap.size v (nearA n (adjE es) n) ∧ Below w.heap.size w w' := by
 obtain ⟨w0, hw0⟩ : ∃ w0, w0 = w.alloc (.cells #[.slice a n c, .slice ra es.length rc] 74) := ⟨_, rfl⟩
 have hb0 : Below w.heap.size w w0 := by rw [hw0]; exact (Below.refl _ _).alloc (Nat.le_refl _) _
 have kA : Blk w0 w.heap.size 74 #[.slice a n c, .slice ra es.length rc] := by rw [hw0]; exact Blk.new _ _ _ rfl
 have z0 := kA.lt
 have htb := l21Table_any a n c ra rc es w0 hn (hes.below hb0) hin
 obtain ⟨T, hT⟩ : ∃ T, T = adjE es := ⟨_, rfl⟩
 rw [← hT] at htb ⊢
 have HTB := hide htb
 have f0 := kA.cell 0
 have f1 := kA.cell 1
 rw [hw0] at f0 f1
 have HW := Lib.hid hw0
 clear hw0 htb hes hin hT kA
 go_enter Try.func100, Try.ntmps100
 go_wp2_with fail
 rw [← HW.out]
 refine (unhide HTB).mono ?_
 rintro e w1 ⟨tv, rfl, t1, b1⟩
 obtain ⟨ta, tc, rfl⟩ := t1.form
 obtain ⟨W2, hW2⟩ : ∃ z, z = w1.alloc (.cells #[] 24) := ⟨_, rfl⟩
 have o2 : OwnS W2 w1.heap.size (.slice (some ⟨w1.heap.size, 0, none⟩) 0 0) (nearA n T 0) := by rw [hW2]; exact OwnS.empty w1 (Nat.le_refl _)
 have b2 : Below w1.heap.size w1 W2 := by rw [hW2]; exact (Below.refl _ _).alloc (Nat.le_refl _) _
 have z1 := b1.size
 have T1 := hide t1
 have O2 := hide o2
 have HW2 := Lib.hid hW2
 clear hW2 t1 o2 f0 f1
 go_wp2_with fail
 rw [← HW2.out]
 go_loopw [4, 5] (fun v iv wr => ∃ k : Nat, iv = .int .i64 k ∧ k ≤ n ∧ Hid (OwnS wr w1.heap.size v (nearA n T k)) ∧ Below w1.heap.size w1 wr) (fun _ iv _ => n - (intOf iv).toNat)
 case atStart => exact ⟨0, rfl, Nat.zero_le _, O2, b2⟩
 case round =>
  obtain ⟨k, rfl, hk, ho, hb⟩ := hrel
  rename World => wo
  have hsz := hb.size
  by_cases hkn : k < n
  · obtain ⟨W3, hW3⟩ : ∃ z, z = wo.alloc (.cells #[] 2) := ⟨_, rfl⟩
    have o3 : Own W3 wo.heap.size (.slice (some ⟨wo.heap.size, 0, none⟩) 0 0) (nearT 0 T k) := by rw [hW3]; exact Own.empty wo (Nat.le_refl _)
    have b3 : Below wo.heap.size wo W3 := by rw [hW3]; exact (Below.refl _ _).alloc (Nat.le_refl _) _
    have HW3 := Lib.hid hW3
    have O3 := hide o3
    have HO := hide ho.out.toH
    clear hW3 o3
    go_wp2_with fail
    rw [← HW3.out]
    go_loopw [6, 7] (fun v iv wr => ∃ j : Nat, iv = .int .i64 j ∧ j ≤ n ∧ Hid (Own wr wo.heap.size v (nearT j T k)) ∧ Below wo.heap.size wo wr) (fun _ iv _ => n - (intOf iv).toNat)
    case atStart => exact ⟨0, rfl, Nat.zero_le _, O3, b3⟩
    case round =>
     obtain ⟨j, rfl, hj, hl, hb2⟩ := hrel
     have hz2 := hb2.size
     by_cases hjn : j < n
     · have tt := (unhide T1).below (hb.trans (hb2.mono hsz))
       obtain ⟨_, g, rfl, _, hg⟩ := tt.addr (by omega)
       obtain ⟨q, c1, c2, _⟩ := tt.at_ hkn hjn
       have hll := nearT_len j T k
       cases htv : T k j with
       | true =>
        rw [htv] at c2
        have hst := nearT_yes htv
        have HST := Lib.hid hst
        obtain ⟨row, hrow⟩ : ∃ row, row = nearT j T k := ⟨_, rfl⟩
        rw [← hrow] at hl hll HST
        clear hst htv hrow tt
        go_wp2_with (at_builtin; refine wpList_append_ints rfl (.tmp 31) (.tmp 33) rfl wo.heap.size _ row [(j : Int)] rfl (hl.out.alloc _) _ 1 1 rfl rfl (Rd.one wr (j : Int) _) (by simp; omega) (by simp; omega) ?_; intro v5 w5 o5 g5 hb5)
        go_roundw
        case rel => exact ⟨j + 1, by go_num, by omega, by show Own _ _ _ _; rw [HST.out]; exact o5, (hb2.alloc (by omega) _).grown g5 (by simp; omega) (fun q hq => (hl.out.lt q hq).1)⟩
        case measure => simp only [intOf]; omega
       | false =>
        rw [htv] at c2
        have hst := nearT_no htv
        have HST := Lib.hid hst
        clear hst htv tt
        go_wp2_with fail
        go_roundw
        case rel => exact ⟨j + 1, by go_num, by omega, by show Own _ _ _ _; rw [HST.out]; exact hl.out, hb2⟩
        case measure => simp only [intOf]; omega
     · have hjn : j = n := by omega
       have HJ := Lib.hid hjn
       have oL := hl.out
       rw [HJ.out] at oL
       have hst := nearA_succ n T k
       have HST := Lib.hid hst
       have hal := nearA_len n T k
       have HAL := Lib.hid hal
       obtain ⟨la, lc, rfl, _, _⟩ := oL.form
       have OL := hide oL
       have hH := (unhide HO).kp (Kp.below hb2 (Nat.le_refl _))
       have HH := hide hH
       clear hjn oL hst hl hal hH
       go_wp2_with (at_builtin; refine wpList_append_row rfl (.tmp 35) (.tmp 37) rfl (v := u4) rfl ((unhide HH).kp (Kp.below ((Below.refl _ _).alloc (Nat.le_refl _) _) hz2)) _ rfl ((Blk.new wr 24 #[.slice la (nearT n T k).length lc] rfl).cell 0) ((unhide OL).alloc _) hsz (by simp; omega) (by rw [HAL.out]; omega) ?_; intro v7 w7 o7 g7 _)
       go_roundw
       case rel => exact ⟨k + 1, by go_num, by omega, by show OwnS _ _ _ _; rw [HST.out]; exact o7, ((hb.trans (hb2.mono hsz)).alloc (by omega) _).grown g7 (by simp; omega) (fun q hq => ((unhide HH).inV q hq).1)⟩
       case measure => simp only [intOf]; omega
  · have hke : k = n := by omega
    have HK := Lib.hid hke
    clear hke
    go_wp2_with fail
    go_ret
    exact ⟨_, rfl, by have h := ho.out; rw [HK.out] at h; exact h.mono (by omega), hb0.trans ((b1.trans (hb.mono z1)).mono (by omega))⟩
end Go.Proofs.Ytpglmogoddgmoaa
namespace Go.Proofs.Ytpglmogoddgmoaa
open Go.RowKit
attribute [local go_sem ↓] Go.wp_at_zero Go.wp_at_succ
theorem l21Ok_any (a ra : Option Addr) (c rc : Nat) (xs : List Int) (es : List (Int × Int)) (w : World) (hx : Rd w a xs) (hes : RdE w ra es) :
    Calls Try.prog 98 #[.agg #[.slice a xs.length c, .slice ra es.length rc]] w fun e w' => e = .returned (.bool (okG xs es)) ∧ Below w.heap.size w w' := by
 have hxl := hx.len
 have hel := hes.len
 obtain ⟨w0, hw0⟩ : ∃ w0, w0 = w.alloc (.cells #[.slice a xs.length c, .slice ra es.length rc] 74) := ⟨_, rfl⟩
 have hb0 : Below w.heap.size w w0 := by rw [hw0]; exact (Below.refl _ _).alloc (Nat.le_refl _) _
 have kA : Blk w0 w.heap.size 74 #[.slice a xs.length c, .slice ra es.length rc] := by rw [hw0]; exact Blk.new _ _ _ rfl
 have s0 : w0.heap.size = w.heap.size + 1 := by rw [hw0]; simp
 have hcol := l21Colors_any a c xs w0 (hx.below hb0)
 obtain ⟨r, hr⟩ : ∃ r, colorsOk xs = r := ⟨_, rfl⟩
 rw [hr] at hcol
 have HR := Lib.hid hr
 have HC := hide hcol
 have f0 : w0.cell? ⟨w.heap.size, 0, none⟩ = some (.slice a xs.length c) := kA.cell 0
 have f1 : w0.cell? ⟨w.heap.size, 1, none⟩ = some (.slice ra es.length rc) := kA.cell 1
 rw [hw0] at f0 f1
 have HW := Lib.hid hw0
 clear hw0 hr hcol
 go_enter Try.func98, Try.ntmps98
 go_wp2_with fail
 rw [← HW.out] at f0 f1 ⊢
 refine (unhide HC).mono ?_
 rintro e w1 ⟨rfl, rfl⟩
 cases r
 · go_wp2
   go_ret
   exact ⟨ret_bool (okG_colors HR.out).symm, hb0⟩
 by_cases h512 : (es.length : Int) ≤ 512
 case neg =>
  go_wp2
  go_ret
  exact ⟨ret_bool (okG_long (by omega)).symm, hb0⟩
 go_wp2_with fail
 go_loopw [4] (fun i wr => ∃ (k : Nat), i = .int .i64 k ∧ k ≤ es.length ∧ Below w0.heap.size w0 wr ∧ Hid (∀ j, j < k → edgeOk xs.length es j = true)) (fun i _ => es.length - (intOf i).toNat)
 case atStart => exact ⟨0, rfl, by omega, Below.refl _ _, fun j hj => by omega⟩
 case round =>
  obtain ⟨k, rfl, hk, hb, hq⟩ := hrel
  have sr := hb.size
  have hb1 := hb0.trans (hb.mono (by omega))
  have kr := kA.below hb kA.lt
  clear f0 f1
  have f0 : wr.cell? ⟨w.heap.size, 0, none⟩ = some (.slice a xs.length c) := kr.cell 0
  have f1 : wr.cell? ⟨w.heap.size, 1, none⟩ = some (.slice ra es.length rc) := kr.cell 1
  have HB := Lib.hid hb
  by_cases hkl : k < es.length
  · obtain ⟨b1, o1, rfl, hbb, hcx⟩ := hes.at_ (by omega)
    have hx1 := (hb1.cell (p := ⟨b1, o1 + k * 2, none⟩) hbb).trans (hcx k hkl).1
    have hx2 := (hb1.cell (p := ⟨b1, o1 + k * 2 + 1, none⟩) hbb).trans (hcx k hkl).2
    obtain ⟨x, hxx⟩ : ∃ z, z = (nthE es k).1 := ⟨_, rfl⟩
    obtain ⟨y, hyy⟩ : ∃ z, z = (nthE es k).2 := ⟨_, rfl⟩
    rw [← hxx] at hx1
    rw [← hyy] at hx2
    have HX : Hid (nthE es k = (x, y)) := by show _ = _; rw [hxx, hyy]
    obtain ⟨wE, hwE⟩ : ∃ wE, wE = wr.alloc (.cells #[.int .i64 x, .int .i64 y] 161) := ⟨_, rfl⟩
    have hbE : Below wr.heap.size wr wE := by rw [hwE]; exact (Below.refl _ _).alloc (Nat.le_refl _) _
    have hbE0 : Below w0.heap.size w0 wE := hb.trans (hbE.mono sr)
    have hbEw := hb0.trans (hbE0.mono (by omega))
    have sE : wE.heap.size = wr.heap.size + 1 := by rw [hwE]; simp
    have kE : Blk wE wr.heap.size 161 #[.int .i64 x, .int .i64 y] := by rw [hwE]; exact Blk.new _ _ _ rfl
    have krE := kA.below hbE0 kA.lt
    have hp : k ≠ 0 → wE.cell? ⟨b1, o1 + (k - 1) * 2, none⟩ = some (.int .i64 (nthE es (k - 1)).1) ∧ wE.cell? ⟨b1, o1 + (k - 1) * 2 + 1, none⟩ = some (.int .i64 (nthE es (k - 1)).2) := fun _ =>
     ⟨(hbEw.cell hbb).trans (hcx (k - 1) (by omega)).1, (hbEw.cell hbb).trans (hcx (k - 1) (by omega)).2⟩
    have HWE := Lib.hid hwE
    have HP := hide hp
    clear hwE hp hcx hes hx hb hxx hyy
    go_upto_region 8 with fail
    rw [← HWE.out]
    have e0 : wE.cell? ⟨wr.heap.size, 0, none⟩ = some (.int .i64 x) := kE.cell 0
    have e1 : wE.cell? ⟨wr.heap.size, 1, none⟩ = some (.int .i64 y) := kE.cell 1
    have g0 : wE.cell? ⟨w.heap.size, 0, none⟩ = some (.slice a xs.length c) := krE.cell 0
    have g1 : wE.cell? ⟨w.heap.size, 1, none⟩ = some (.slice (some ⟨b1, o1, none⟩) es.length rc) := krE.cell 1
    go_cut [62] (fun v wx => v = .bool (!edgeOk xs.length es k) ∧ Below wE.heap.size wE wx)
    case first =>
     have key : ∀ W : World, Below wE.heap.size wE W → (Below wE.heap.size wE W ∧ W.cell? ⟨wr.heap.size, 0, none⟩ = some (.int .i64 x) ∧ W.cell? ⟨wr.heap.size, 1, none⟩ = some (.int .i64 y) ∧ W.cell? ⟨w.heap.size, 0, none⟩ = some (.slice a xs.length c) ∧ W.cell? ⟨w.heap.size, 1, none⟩ = some (.slice (some ⟨b1, o1, none⟩) es.length rc)) := fun W h => ⟨h, (h.cell kE.lt).trans e0, (h.cell kE.lt).trans e1, (h.cell krE.lt).trans g0, (h.cell krE.lt).trans g1⟩
     have BX := hide key
     have hw1 : IntKind.i64.wrap ((xs.length : Int) - 1) = (xs.length : Int) - 1 := IntWalk.i64_in _ (by omega)
     by_cases c1 : 0 ≤ x ∧ x ≤ (xs.length : Int) - 1
     case neg =>
      have EK := Lib.hid (edgeOk_no' HX.out (n := (xs.length : Int)) (by omega))
      have C1i : inB x 0 ((xs.length : Int) - 1) = false := by unfold inB; rw [decide_eq_false_iff_not]; exact c1
      have C1 : ∀ W, Calls Try.prog 133 #[.int .i64 x, .int .i64 0, .int .i64 ((xs.length : Int) - 1)] W fun e w' => e = .returned (.bool false) ∧ W = w' := fun W => by
       have h := l00In_any x 0 ((xs.length : Int) - 1) W
       rw [C1i] at h
       exact h
      have C1 := hide C1
      clear C1i c1
      refine wp_region_noPanic ?_
      refine wp_region_seq (S := (fun W => Below wE.heap.size wE W ∧ W.cell? ⟨wr.heap.size, 0, none⟩ = some (.int .i64 x) ∧ W.cell? ⟨wr.heap.size, 1, none⟩ = some (.int .i64 y) ∧ W.cell? ⟨w.heap.size, 0, none⟩ = some (.slice a xs.length c) ∧ W.cell? ⟨w.heap.size, 1, none⟩ = some (.slice (some ⟨b1, o1, none⟩) es.length rc))) [true, true, true, true, false, true, true, true, true, true, true, true, true, true, false, true, true, true, true, true, true, true, true, true, true, true, true, true, false, true, true, true] (by kernel_rfl) (by kernel_rfl) (by kernel_rfl) rfl (fun _ _ _ _ _ h => h) ?_ (fun hHeld => ?_)
      · exact (unhide BX) _ (Below.refl _ _).drew
      simp only [List.toList_toArray]
      refine SeqH.take (v := ?hv1) (by rfl) ?hy1 ?hr1
      case hy1 =>
       intro w hSw
       try dsimp only at hSw
       go_simp
       try (with_reducible rfl)
      try simp only [Act.put, List.setIfInBounds_toArray, List.set_cons_zero, List.set_cons_succ]
      refine SeqH.take (v := ?hv2) (by rfl) ?hy2 ?hr2
      case hy2 =>
       intro w hSw
       try dsimp only at hSw
       go_simp
       try (with_reducible rfl)
      try simp only [Act.put, List.setIfInBounds_toArray, List.set_cons_zero, List.set_cons_succ]
      refine SeqH.take (v := ?hv3) (by rfl) ?hy3 ?hr3
      case hy3 =>
       intro w hSw
       try dsimp only at hSw
       go_simp
       try (with_reducible rfl)
      try simp only [Act.put, List.setIfInBounds_toArray, List.set_cons_zero, List.set_cons_succ]
      refine SeqH.take (v := ?hv4) (by rfl) ?hy4 ?hr4
      case hy4 =>
       intro w hSw
       try dsimp only at hSw
       go_simp
       try (with_reducible rfl)
      try simp only [Act.put, List.setIfInBounds_toArray, List.set_cons_zero, List.set_cons_succ]
      refine SeqH.call (fun K hK => ?_)
      go_simp
      refine ((unhide C1) _).mono ?_
      rintro e W ⟨rfl, rfl⟩
      go_wp2_with fail
      refine hK.out _ _ ?_ (fun hHeld => ?_)
      · exact hHeld
      clear hK K
      try simp only [Act.put, List.setIfInBounds_toArray, List.set_cons_zero, List.set_cons_succ]
      refine SeqH.take (v := ?hv5) (by rfl) ?hy5 ?hr5
      case hy5 =>
       intro w hSw
       try dsimp only at hSw
       go_simp
       try (with_reducible rfl)
      try simp only [Act.put, List.setIfInBounds_toArray, List.set_cons_zero, List.set_cons_succ]
      refine SeqH.take (v := ?hv6) (by rfl) ?hy6 ?hr6
      case hy6 =>
       intro w hSw
       try dsimp only at hSw
       go_simp
       try (with_reducible rfl)
      try simp only [Act.put, List.setIfInBounds_toArray, List.set_cons_zero, List.set_cons_succ]
      refine SeqH.skip (by rfl) ?_
      try simp only [Act.put, List.setIfInBounds_toArray, List.set_cons_zero, List.set_cons_succ]
      refine SeqH.skip (by rfl) ?_
      try simp only [Act.put, List.setIfInBounds_toArray, List.set_cons_zero, List.set_cons_succ]
      refine SeqH.skip (by rfl) ?_
      try simp only [Act.put, List.setIfInBounds_toArray, List.set_cons_zero, List.set_cons_succ]
      refine SeqH.skip (by rfl) ?_
      try simp only [Act.put, List.setIfInBounds_toArray, List.set_cons_zero, List.set_cons_succ]
      refine SeqH.skip (by rfl) ?_
      try simp only [Act.put, List.setIfInBounds_toArray, List.set_cons_zero, List.set_cons_succ]
      refine SeqH.skip (by rfl) ?_
      try simp only [Act.put, List.setIfInBounds_toArray, List.set_cons_zero, List.set_cons_succ]
      refine SeqH.skip (by rfl) ?_
      try simp only [Act.put, List.setIfInBounds_toArray, List.set_cons_zero, List.set_cons_succ]
      refine SeqH.call (fun K hK => ?_)
      go_simp
      skip
      refine hK.out _ _ ?_ (fun hHeld => ?_)
      · exact hHeld
      clear hK K
      try simp only [Act.put, List.setIfInBounds_toArray, List.set_cons_zero, List.set_cons_succ]
      refine SeqH.skip (by rfl) ?_
      try simp only [Act.put, List.setIfInBounds_toArray, List.set_cons_zero, List.set_cons_succ]
      refine SeqH.take (v := ?hv7) (by rfl) ?hy7 ?hr7
      case hy7 =>
       intro w hSw
       try dsimp only at hSw
       go_simp
       try (with_reducible rfl)
      try simp only [Act.put, List.setIfInBounds_toArray, List.set_cons_zero, List.set_cons_succ]
      refine SeqH.take (v := ?hv8) (by rfl) ?hy8 ?hr8
      case hy8 =>
       intro w hSw
       try dsimp only at hSw
       go_simp
       try (with_reducible rfl)
      try simp only [Act.put, List.setIfInBounds_toArray, List.set_cons_zero, List.set_cons_succ]
      refine SeqH.skip (by rfl) ?_
      try simp only [Act.put, List.setIfInBounds_toArray, List.set_cons_zero, List.set_cons_succ]
      refine SeqH.skip (by rfl) ?_
      try simp only [Act.put, List.setIfInBounds_toArray, List.set_cons_zero, List.set_cons_succ]
      refine SeqH.skip (by rfl) ?_
      try simp only [Act.put, List.setIfInBounds_toArray, List.set_cons_zero, List.set_cons_succ]
      refine SeqH.skip (by rfl) ?_
      try simp only [Act.put, List.setIfInBounds_toArray, List.set_cons_zero, List.set_cons_succ]
      refine SeqH.skip (by rfl) ?_
      try simp only [Act.put, List.setIfInBounds_toArray, List.set_cons_zero, List.set_cons_succ]
      refine SeqH.skip (by rfl) ?_
      try simp only [Act.put, List.setIfInBounds_toArray, List.set_cons_zero, List.set_cons_succ]
      refine SeqH.skip (by rfl) ?_
      try simp only [Act.put, List.setIfInBounds_toArray, List.set_cons_zero, List.set_cons_succ]
      refine SeqH.skip (by rfl) ?_
      try simp only [Act.put, List.setIfInBounds_toArray, List.set_cons_zero, List.set_cons_succ]
      refine SeqH.skip (by rfl) ?_
      try simp only [Act.put, List.setIfInBounds_toArray, List.set_cons_zero, List.set_cons_succ]
      refine SeqH.skip (by rfl) ?_
      try simp only [Act.put, List.setIfInBounds_toArray, List.set_cons_zero, List.set_cons_succ]
      refine SeqH.call (fun K hK => ?_)
      go_simp
      skip
      refine hK.out _ _ ?_ (fun hHeld => ?_)
      · exact hHeld
      clear hK K
      try simp only [Act.put, List.setIfInBounds_toArray, List.set_cons_zero, List.set_cons_succ]
      refine SeqH.skip (by rfl) ?_
      try simp only [Act.put, List.setIfInBounds_toArray, List.set_cons_zero, List.set_cons_succ]
      refine SeqH.skip (by rfl) ?_
      try simp only [Act.put, List.setIfInBounds_toArray, List.set_cons_zero, List.set_cons_succ]
      refine SeqH.take (v := ?hv9) (by rfl) ?hy9 ?hr9
      case hy9 =>
       intro w hSw
       try dsimp only at hSw
       go_simp
       try (with_reducible rfl)
      try simp only [Act.put, List.setIfInBounds_toArray, List.set_cons_zero, List.set_cons_succ]
      refine SeqH.done (NoPanic.normal ?_)
      go_wp2
      go_meet
      exact ⟨by rw [EK.out]; rfl, (And.left hHeld)⟩
     obtain ⟨d1, d2⟩ := c1
     have C1i : inB x 0 ((xs.length : Int) - 1) = true := inB_yes d1 d2
     have C1 : ∀ W, Calls Try.prog 133 #[.int .i64 x, .int .i64 0, .int .i64 ((xs.length : Int) - 1)] W fun e w' => e = .returned (.bool true) ∧ W = w' := fun W => by
      have h := l00In_any x 0 ((xs.length : Int) - 1) W
      rw [C1i] at h
      exact h
     have C1 := hide C1
     have hw2 : IntKind.i64.wrap (x + 1) = x + 1 := IntWalk.i64_in _ (by omega)
     by_cases c2 : x + 1 ≤ y ∧ y ≤ (xs.length : Int) - 1
     case neg =>
      have EK := Lib.hid (edgeOk_no' HX.out (n := (xs.length : Int)) (by omega))
      have C2i : inB y (x + 1) ((xs.length : Int) - 1) = false := by unfold inB; rw [decide_eq_false_iff_not]; exact c2
      have C2 : ∀ W, Calls Try.prog 133 #[.int .i64 y, .int .i64 (x + 1), .int .i64 ((xs.length : Int) - 1)] W fun e w' => e = .returned (.bool false) ∧ W = w' := fun W => by
       have h := l00In_any y (x + 1) ((xs.length : Int) - 1) W
       rw [C2i] at h
       exact h
      have C2 := hide C2
      clear C1i C2i c2
      refine wp_region_noPanic ?_
      refine wp_region_seq (S := (fun W => Below wE.heap.size wE W ∧ W.cell? ⟨wr.heap.size, 0, none⟩ = some (.int .i64 x) ∧ W.cell? ⟨wr.heap.size, 1, none⟩ = some (.int .i64 y) ∧ W.cell? ⟨w.heap.size, 0, none⟩ = some (.slice a xs.length c) ∧ W.cell? ⟨w.heap.size, 1, none⟩ = some (.slice (some ⟨b1, o1, none⟩) es.length rc))) [true, true, true, true, false, true, true, true, true, true, true, true, true, true, false, true, true, true, true, true, true, true, true, true, true, true, true, true, false, true, true, true] (by kernel_rfl) (by kernel_rfl) (by kernel_rfl) rfl (fun _ _ _ _ _ h => h) ?_ (fun hHeld => ?_)
      · exact (unhide BX) _ (Below.refl _ _).drew
      simp only [List.toList_toArray]
      refine SeqH.take (v := ?hv10) (by rfl) ?hy10 ?hr10
      case hy10 =>
       intro w hSw
       try dsimp only at hSw
       go_simp
       try (with_reducible rfl)
      try simp only [Act.put, List.setIfInBounds_toArray, List.set_cons_zero, List.set_cons_succ]
      refine SeqH.take (v := ?hv11) (by rfl) ?hy11 ?hr11
      case hy11 =>
       intro w hSw
       try dsimp only at hSw
       go_simp
       try (with_reducible rfl)
      try simp only [Act.put, List.setIfInBounds_toArray, List.set_cons_zero, List.set_cons_succ]
      refine SeqH.take (v := ?hv12) (by rfl) ?hy12 ?hr12
      case hy12 =>
       intro w hSw
       try dsimp only at hSw
       go_simp
       try (with_reducible rfl)
      try simp only [Act.put, List.setIfInBounds_toArray, List.set_cons_zero, List.set_cons_succ]
      refine SeqH.take (v := ?hv13) (by rfl) ?hy13 ?hr13
      case hy13 =>
       intro w hSw
       try dsimp only at hSw
       go_simp
       try (with_reducible rfl)
      try simp only [Act.put, List.setIfInBounds_toArray, List.set_cons_zero, List.set_cons_succ]
      refine SeqH.call (fun K hK => ?_)
      go_simp
      refine ((unhide C1) _).mono ?_
      rintro e W ⟨rfl, rfl⟩
      go_wp2_with fail
      refine hK.out _ _ ?_ (fun hHeld => ?_)
      · exact hHeld
      clear hK K
      try simp only [Act.put, List.setIfInBounds_toArray, List.set_cons_zero, List.set_cons_succ]
      refine SeqH.take (v := ?hv14) (by rfl) ?hy14 ?hr14
      case hy14 =>
       intro w hSw
       try dsimp only at hSw
       go_simp
       try (with_reducible rfl)
      try simp only [Act.put, List.setIfInBounds_toArray, List.set_cons_zero, List.set_cons_succ]
      refine SeqH.take (v := ?hv15) (by rfl) ?hy15 ?hr15
      case hy15 =>
       intro w hSw
       try dsimp only at hSw
       go_simp
       try (with_reducible rfl)
      try simp only [Act.put, List.setIfInBounds_toArray, List.set_cons_zero, List.set_cons_succ]
      refine SeqH.take (v := ?hv16) (by rfl) ?hy16 ?hr16
      case hy16 =>
       intro w hSw
       try dsimp only at hSw
       go_simp
       try (with_reducible rfl)
      try simp only [Act.put, List.setIfInBounds_toArray, List.set_cons_zero, List.set_cons_succ]
      refine SeqH.take (v := ?hv17) (by rfl) ?hy17 ?hr17
      case hy17 =>
       intro w hSw
       try dsimp only at hSw
       go_simp
       try (with_reducible rfl)
      try simp only [Act.put, List.setIfInBounds_toArray, List.set_cons_zero, List.set_cons_succ]
      refine SeqH.take (v := ?hv18) (by rfl) ?hy18 ?hr18
      case hy18 =>
       intro w hSw
       try dsimp only at hSw
       go_simp
       try (with_reducible rfl)
      try simp only [Act.put, List.setIfInBounds_toArray, List.set_cons_zero, List.set_cons_succ]
      refine SeqH.take (v := ?hv19) (by rfl) ?hy19 ?hr19
      case hy19 =>
       intro w hSw
       try dsimp only at hSw
       go_simp
       try (with_reducible rfl)
      try simp only [Act.put, List.setIfInBounds_toArray, List.set_cons_zero, List.set_cons_succ]
      refine SeqH.take (v := ?hv20) (by rfl) ?hy20 ?hr20
      case hy20 =>
       intro w hSw
       try dsimp only at hSw
       go_simp
       try (with_reducible rfl)
      try simp only [Act.put, List.setIfInBounds_toArray, List.set_cons_zero, List.set_cons_succ]
      refine SeqH.take (v := ?hv21) (by rfl) ?hy21 ?hr21
      case hy21 =>
       intro w hSw
       try dsimp only at hSw
       go_simp
       try (with_reducible rfl)
      try simp only [Act.put, List.setIfInBounds_toArray, List.set_cons_zero, List.set_cons_succ]
      refine SeqH.take (v := ?hv22) (by rfl) ?hy22 ?hr22
      case hy22 =>
       intro w hSw
       try dsimp only at hSw
       go_simp
       try (with_reducible rfl)
      try simp only [Act.put, List.setIfInBounds_toArray, List.set_cons_zero, List.set_cons_succ]
      refine SeqH.call (fun K hK => ?_)
      go_simp
      refine ((unhide C2) _).mono ?_
      rintro e W ⟨rfl, rfl⟩
      go_wp2_with fail
      refine hK.out _ _ ?_ (fun hHeld => ?_)
      · exact hHeld
      clear hK K
      try simp only [Act.put, List.setIfInBounds_toArray, List.set_cons_zero, List.set_cons_succ]
      refine SeqH.take (v := ?hv23) (by rfl) ?hy23 ?hr23
      case hy23 =>
       intro w hSw
       try dsimp only at hSw
       go_simp
       try (with_reducible rfl)
      try simp only [Act.put, List.setIfInBounds_toArray, List.set_cons_zero, List.set_cons_succ]
      refine SeqH.take (v := ?hv24) (by rfl) ?hy24 ?hr24
      case hy24 =>
       intro w hSw
       try dsimp only at hSw
       go_simp
       try (with_reducible rfl)
      try simp only [Act.put, List.setIfInBounds_toArray, List.set_cons_zero, List.set_cons_succ]
      refine SeqH.take (v := ?hv25) (by rfl) ?hy25 ?hr25
      case hy25 =>
       intro w hSw
       try dsimp only at hSw
       go_simp
       try (with_reducible rfl)
      try simp only [Act.put, List.setIfInBounds_toArray, List.set_cons_zero, List.set_cons_succ]
      refine SeqH.skip (by rfl) ?_
      try simp only [Act.put, List.setIfInBounds_toArray, List.set_cons_zero, List.set_cons_succ]
      refine SeqH.skip (by rfl) ?_
      try simp only [Act.put, List.setIfInBounds_toArray, List.set_cons_zero, List.set_cons_succ]
      refine SeqH.skip (by rfl) ?_
      try simp only [Act.put, List.setIfInBounds_toArray, List.set_cons_zero, List.set_cons_succ]
      refine SeqH.skip (by rfl) ?_
      try simp only [Act.put, List.setIfInBounds_toArray, List.set_cons_zero, List.set_cons_succ]
      refine SeqH.skip (by rfl) ?_
      try simp only [Act.put, List.setIfInBounds_toArray, List.set_cons_zero, List.set_cons_succ]
      refine SeqH.skip (by rfl) ?_
      try simp only [Act.put, List.setIfInBounds_toArray, List.set_cons_zero, List.set_cons_succ]
      refine SeqH.skip (by rfl) ?_
      try simp only [Act.put, List.setIfInBounds_toArray, List.set_cons_zero, List.set_cons_succ]
      refine SeqH.skip (by rfl) ?_
      try simp only [Act.put, List.setIfInBounds_toArray, List.set_cons_zero, List.set_cons_succ]
      refine SeqH.skip (by rfl) ?_
      try simp only [Act.put, List.setIfInBounds_toArray, List.set_cons_zero, List.set_cons_succ]
      refine SeqH.skip (by rfl) ?_
      try simp only [Act.put, List.setIfInBounds_toArray, List.set_cons_zero, List.set_cons_succ]
      refine SeqH.call (fun K hK => ?_)
      go_simp
      skip
      refine hK.out _ _ ?_ (fun hHeld => ?_)
      · exact hHeld
      clear hK K
      try simp only [Act.put, List.setIfInBounds_toArray, List.set_cons_zero, List.set_cons_succ]
      refine SeqH.skip (by rfl) ?_
      try simp only [Act.put, List.setIfInBounds_toArray, List.set_cons_zero, List.set_cons_succ]
      refine SeqH.skip (by rfl) ?_
      try simp only [Act.put, List.setIfInBounds_toArray, List.set_cons_zero, List.set_cons_succ]
      refine SeqH.take (v := ?hv26) (by rfl) ?hy26 ?hr26
      case hy26 =>
       intro w hSw
       try dsimp only at hSw
       go_simp
       try (with_reducible rfl)
      try simp only [Act.put, List.setIfInBounds_toArray, List.set_cons_zero, List.set_cons_succ]
      refine SeqH.done (NoPanic.normal ?_)
      go_wp2
      go_meet
      exact ⟨by rw [EK.out]; rfl, (And.left hHeld)⟩
     obtain ⟨d3, d4⟩ := c2
     have C2i : inB y (x + 1) ((xs.length : Int) - 1) = true := inB_yes d3 d4
     have C2 : ∀ W, Calls Try.prog 133 #[.int .i64 y, .int .i64 (x + 1), .int .i64 ((xs.length : Int) - 1)] W fun e w' => e = .returned (.bool true) ∧ W = w' := fun W => by
      have h := l00In_any y (x + 1) ((xs.length : Int) - 1) W
      rw [C2i] at h
      exact h
     have C2 := hide C2
     clear C1i C2i
     by_cases k0 : k = 0
     case pos =>
      subst k0
      have EK := Lib.hid (edgeOk_zero' HX.out (n := (xs.length : Int)) (by omega) (by omega) (by omega))
      have q5 : decide ((0 : Int) < ((0 : Nat) : Int)) = false := rfl
      refine wp_region_noPanic ?_
      refine wp_region_seq (S := (fun W => Below wE.heap.size wE W ∧ W.cell? ⟨wr.heap.size, 0, none⟩ = some (.int .i64 x) ∧ W.cell? ⟨wr.heap.size, 1, none⟩ = some (.int .i64 y) ∧ W.cell? ⟨w.heap.size, 0, none⟩ = some (.slice a xs.length c) ∧ W.cell? ⟨w.heap.size, 1, none⟩ = some (.slice (some ⟨b1, o1, none⟩) es.length rc))) [true, true, true, true, false, true, true, true, true, true, true, true, true, true, false, true, true, true, true, true, true, true, true, true, true, true, true, true, false, true, true, true] (by kernel_rfl) (by kernel_rfl) (by kernel_rfl) rfl (fun _ _ _ _ _ h => h) ?_ (fun hHeld => ?_)
      · exact (unhide BX) _ (Below.refl _ _).drew
      simp only [List.toList_toArray]
      refine SeqH.take (v := ?hv27) (by rfl) ?hy27 ?hr27
      case hy27 =>
       intro w hSw
       try dsimp only at hSw
       go_simp
       try (with_reducible rfl)
      try simp only [Act.put, List.setIfInBounds_toArray, List.set_cons_zero, List.set_cons_succ]
      refine SeqH.take (v := ?hv28) (by rfl) ?hy28 ?hr28
      case hy28 =>
       intro w hSw
       try dsimp only at hSw
       go_simp
       try (with_reducible rfl)
      try simp only [Act.put, List.setIfInBounds_toArray, List.set_cons_zero, List.set_cons_succ]
      refine SeqH.take (v := ?hv29) (by rfl) ?hy29 ?hr29
      case hy29 =>
       intro w hSw
       try dsimp only at hSw
       go_simp
       try (with_reducible rfl)
      try simp only [Act.put, List.setIfInBounds_toArray, List.set_cons_zero, List.set_cons_succ]
      refine SeqH.take (v := ?hv30) (by rfl) ?hy30 ?hr30
      case hy30 =>
       intro w hSw
       try dsimp only at hSw
       go_simp
       try (with_reducible rfl)
      try simp only [Act.put, List.setIfInBounds_toArray, List.set_cons_zero, List.set_cons_succ]
      refine SeqH.call (fun K hK => ?_)
      go_simp
      refine ((unhide C1) _).mono ?_
      rintro e W ⟨rfl, rfl⟩
      go_wp2_with fail
      refine hK.out _ _ ?_ (fun hHeld => ?_)
      · exact hHeld
      clear hK K
      try simp only [Act.put, List.setIfInBounds_toArray, List.set_cons_zero, List.set_cons_succ]
      refine SeqH.take (v := ?hv31) (by rfl) ?hy31 ?hr31
      case hy31 =>
       intro w hSw
       try dsimp only at hSw
       go_simp
       try (with_reducible rfl)
      try simp only [Act.put, List.setIfInBounds_toArray, List.set_cons_zero, List.set_cons_succ]
      refine SeqH.take (v := ?hv32) (by rfl) ?hy32 ?hr32
      case hy32 =>
       intro w hSw
       try dsimp only at hSw
       go_simp
       try (with_reducible rfl)
      try simp only [Act.put, List.setIfInBounds_toArray, List.set_cons_zero, List.set_cons_succ]
      refine SeqH.take (v := ?hv33) (by rfl) ?hy33 ?hr33
      case hy33 =>
       intro w hSw
       try dsimp only at hSw
       go_simp
       try (with_reducible rfl)
      try simp only [Act.put, List.setIfInBounds_toArray, List.set_cons_zero, List.set_cons_succ]
      refine SeqH.take (v := ?hv34) (by rfl) ?hy34 ?hr34
      case hy34 =>
       intro w hSw
       try dsimp only at hSw
       go_simp
       try (with_reducible rfl)
      try simp only [Act.put, List.setIfInBounds_toArray, List.set_cons_zero, List.set_cons_succ]
      refine SeqH.take (v := ?hv35) (by rfl) ?hy35 ?hr35
      case hy35 =>
       intro w hSw
       try dsimp only at hSw
       go_simp
       try (with_reducible rfl)
      try simp only [Act.put, List.setIfInBounds_toArray, List.set_cons_zero, List.set_cons_succ]
      refine SeqH.take (v := ?hv36) (by rfl) ?hy36 ?hr36
      case hy36 =>
       intro w hSw
       try dsimp only at hSw
       go_simp
       try (with_reducible rfl)
      try simp only [Act.put, List.setIfInBounds_toArray, List.set_cons_zero, List.set_cons_succ]
      refine SeqH.take (v := ?hv37) (by rfl) ?hy37 ?hr37
      case hy37 =>
       intro w hSw
       try dsimp only at hSw
       go_simp
       try (with_reducible rfl)
      try simp only [Act.put, List.setIfInBounds_toArray, List.set_cons_zero, List.set_cons_succ]
      refine SeqH.take (v := ?hv38) (by rfl) ?hy38 ?hr38
      case hy38 =>
       intro w hSw
       try dsimp only at hSw
       go_simp
       try (with_reducible rfl)
      try simp only [Act.put, List.setIfInBounds_toArray, List.set_cons_zero, List.set_cons_succ]
      refine SeqH.take (v := ?hv39) (by rfl) ?hy39 ?hr39
      case hy39 =>
       intro w hSw
       try dsimp only at hSw
       go_simp
       try (with_reducible rfl)
      try simp only [Act.put, List.setIfInBounds_toArray, List.set_cons_zero, List.set_cons_succ]
      refine SeqH.call (fun K hK => ?_)
      go_simp
      refine ((unhide C2) _).mono ?_
      rintro e W ⟨rfl, rfl⟩
      go_wp2_with fail
      refine hK.out _ _ ?_ (fun hHeld => ?_)
      · exact hHeld
      clear hK K
      try simp only [Act.put, List.setIfInBounds_toArray, List.set_cons_zero, List.set_cons_succ]
      refine SeqH.take (v := ?hv40) (by rfl) ?hy40 ?hr40
      case hy40 =>
       intro w hSw
       try dsimp only at hSw
       go_simp
       try (with_reducible rfl)
      try simp only [Act.put, List.setIfInBounds_toArray, List.set_cons_zero, List.set_cons_succ]
      refine SeqH.take (v := ?hv41) (by rfl) ?hy41 ?hr41
      case hy41 =>
       intro w hSw
       try dsimp only at hSw
       go_simp
       try (with_reducible rfl)
      try simp only [Act.put, List.setIfInBounds_toArray, List.set_cons_zero, List.set_cons_succ]
      refine SeqH.take (v := ?hv42) (by rfl) ?hy42 ?hr42
      case hy42 =>
       intro w hSw
       try dsimp only at hSw
       go_simp
       try (with_reducible rfl)
      try simp only [Act.put, List.setIfInBounds_toArray, List.set_cons_zero, List.set_cons_succ]
      refine SeqH.take (v := ?hv43) (by rfl) ?hy43 ?hr43
      case hy43 =>
       intro w hSw
       try dsimp only at hSw
       go_simp
       try (with_reducible rfl)
      try simp only [Act.put, List.setIfInBounds_toArray, List.set_cons_zero, List.set_cons_succ]
      refine SeqH.take (v := ?hv44) (by rfl) ?hy44 ?hr44
      case hy44 =>
       intro w hSw
       try dsimp only at hSw
       go_simp
       try (with_reducible rfl)
      try simp only [Act.put, List.setIfInBounds_toArray, List.set_cons_zero, List.set_cons_succ]
      refine SeqH.take (v := ?hv45) (by rfl) ?hy45 ?hr45
      case hy45 =>
       intro w hSw
       try dsimp only at hSw
       go_simp
       try (with_reducible rfl)
      try simp only [Act.put, List.setIfInBounds_toArray, List.set_cons_zero, List.set_cons_succ]
      refine SeqH.skip (by rfl) ?_
      try simp only [Act.put, List.setIfInBounds_toArray, List.set_cons_zero, List.set_cons_succ]
      refine SeqH.skip (by rfl) ?_
      try simp only [Act.put, List.setIfInBounds_toArray, List.set_cons_zero, List.set_cons_succ]
      refine SeqH.skip (by rfl) ?_
      try simp only [Act.put, List.setIfInBounds_toArray, List.set_cons_zero, List.set_cons_succ]
      refine SeqH.skip (by rfl) ?_
      try simp only [Act.put, List.setIfInBounds_toArray, List.set_cons_zero, List.set_cons_succ]
      refine SeqH.skip (by rfl) ?_
      try simp only [Act.put, List.setIfInBounds_toArray, List.set_cons_zero, List.set_cons_succ]
      refine SeqH.skip (by rfl) ?_
      try simp only [Act.put, List.setIfInBounds_toArray, List.set_cons_zero, List.set_cons_succ]
      refine SeqH.skip (by rfl) ?_
      try simp only [Act.put, List.setIfInBounds_toArray, List.set_cons_zero, List.set_cons_succ]
      refine SeqH.call (fun K hK => ?_)
      go_simp
      skip
      refine hK.out _ _ ?_ (fun hHeld => ?_)
      · exact hHeld
      clear hK K
      try simp only [Act.put, List.setIfInBounds_toArray, List.set_cons_zero, List.set_cons_succ]
      refine SeqH.skip (by rfl) ?_
      try simp only [Act.put, List.setIfInBounds_toArray, List.set_cons_zero, List.set_cons_succ]
      refine SeqH.take (v := ?hv46) (by rfl) ?hy46 ?hr46
      case hy46 =>
       intro w hSw
       try dsimp only at hSw
       go_simp
       try (with_reducible rfl)
      try simp only [Act.put, List.setIfInBounds_toArray, List.set_cons_zero, List.set_cons_succ]
      refine SeqH.take (v := ?hv47) (by rfl) ?hy47 ?hr47
      case hy47 =>
       intro w hSw
       try dsimp only at hSw
       go_simp
       try (with_reducible rfl)
      try simp only [Act.put, List.setIfInBounds_toArray, List.set_cons_zero, List.set_cons_succ]
      refine SeqH.done (NoPanic.normal ?_)
      go_wp2
      go_meet
      exact ⟨by rw [EK.out]; rfl, (And.left hHeld)⟩
     obtain ⟨m, rfl⟩ : ∃ m, k = m + 1 := ⟨k - 1, by omega⟩
     obtain ⟨hq0, hq1⟩ := (unhide HP) k0
     have hek := edgeOk_less' HX.out (n := (xs.length : Int)) k0 (by omega) (by omega) (by omega)
     simp only [Nat.add_sub_cancel] at hq0 hq1 hek
     obtain ⟨px, hpx⟩ : ∃ z, z = (nthE es m).1 := ⟨_, rfl⟩
     obtain ⟨py, hpy⟩ : ∃ z, z = (nthE es m).2 := ⟨_, rfl⟩
     rw [← hpx] at hq0
     rw [← hpy] at hq1
     have hpe : nthE es m = (px, py) := by rw [hpx, hpy]
     rw [hpe] at hek
     have EK := Lib.hid hek
     have key2 : ∀ W : World, Below wE.heap.size wE W → (Below wE.heap.size wE W ∧ W.cell? ⟨wr.heap.size, 0, none⟩ = some (.int .i64 x) ∧ W.cell? ⟨wr.heap.size, 1, none⟩ = some (.int .i64 y) ∧ W.cell? ⟨w.heap.size, 0, none⟩ = some (.slice a xs.length c) ∧ W.cell? ⟨w.heap.size, 1, none⟩ = some (.slice (some ⟨b1, o1, none⟩) es.length rc) ∧ W.cell? ⟨b1, o1 + m * 2, none⟩ = some (.int .i64 px) ∧ W.cell? ⟨b1, o1 + m * 2 + 1, none⟩ = some (.int .i64 py)) := fun W h => ⟨h, (h.cell kE.lt).trans e0, (h.cell kE.lt).trans e1, (h.cell krE.lt).trans g0, (h.cell krE.lt).trans g1, (h.cell (World.block_lt_of_cell? wE _ hq0)).trans hq0, (h.cell (World.block_lt_of_cell? wE _ hq1)).trans hq1⟩
     have BY := hide key2
     clear key2 hq0 hq1 HP hek k0 hpx hpy hpe
     have hw3 : IntKind.i64.wrap (m : Int) = (m : Int) := IntWalk.i64_in _ (by omega)
     have hml : m < es.length := by omega
     have q5 : decide ((0 : Int) < ((m + 1 : Nat) : Int)) = true := decide_eq_true (by omega)
     have q6 : decide ((0 : Int) < (m : Int) + 1) = true := decide_eq_true (by omega)
     refine wp_region_noPanic ?_
     refine wp_region_seq (S := (fun W => Below wE.heap.size wE W ∧ W.cell? ⟨wr.heap.size, 0, none⟩ = some (.int .i64 x) ∧ W.cell? ⟨wr.heap.size, 1, none⟩ = some (.int .i64 y) ∧ W.cell? ⟨w.heap.size, 0, none⟩ = some (.slice a xs.length c) ∧ W.cell? ⟨w.heap.size, 1, none⟩ = some (.slice (some ⟨b1, o1, none⟩) es.length rc) ∧ W.cell? ⟨b1, o1 + m * 2, none⟩ = some (.int .i64 px) ∧ W.cell? ⟨b1, o1 + m * 2 + 1, none⟩ = some (.int .i64 py))) [true, true, true, true, false, true, true, true, true, true, true, true, true, true, false, true, true, true, true, true, true, true, true, true, true, true, true, true, false, true, true, true] (by kernel_rfl) (by kernel_rfl) (by kernel_rfl) rfl (fun _ _ _ _ _ h => h) ?_ (fun hHeld => ?_)
     · exact (unhide BY) _ (Below.refl _ _).drew
     simp only [List.toList_toArray]
     refine SeqH.take (v := ?hv48) (by rfl) ?hy48 ?hr48
     case hy48 =>
      intro w hSw
      try dsimp only at hSw
      go_simp
      try (with_reducible rfl)
     try simp only [Act.put, List.setIfInBounds_toArray, List.set_cons_zero, List.set_cons_succ]
     refine SeqH.take (v := ?hv49) (by rfl) ?hy49 ?hr49
     case hy49 =>
      intro w hSw
      try dsimp only at hSw
      go_simp
      try (with_reducible rfl)
     try simp only [Act.put, List.setIfInBounds_toArray, List.set_cons_zero, List.set_cons_succ]
     refine SeqH.take (v := ?hv50) (by rfl) ?hy50 ?hr50
     case hy50 =>
      intro w hSw
      try dsimp only at hSw
      go_simp
      try (with_reducible rfl)
     try simp only [Act.put, List.setIfInBounds_toArray, List.set_cons_zero, List.set_cons_succ]
     refine SeqH.take (v := ?hv51) (by rfl) ?hy51 ?hr51
     case hy51 =>
      intro w hSw
      try dsimp only at hSw
      go_simp
      try (with_reducible rfl)
     try simp only [Act.put, List.setIfInBounds_toArray, List.set_cons_zero, List.set_cons_succ]
     refine SeqH.call (fun K hK => ?_)
     go_simp
     refine ((unhide C1) _).mono ?_
     rintro e W ⟨rfl, rfl⟩
     go_wp2_with fail
     refine hK.out _ _ ?_ (fun hHeld => ?_)
     · exact hHeld
     clear hK K
     try simp only [Act.put, List.setIfInBounds_toArray, List.set_cons_zero, List.set_cons_succ]
     refine SeqH.take (v := ?hv52) (by rfl) ?hy52 ?hr52
     case hy52 =>
      intro w hSw
      try dsimp only at hSw
      go_simp
      try (with_reducible rfl)
     try simp only [Act.put, List.setIfInBounds_toArray, List.set_cons_zero, List.set_cons_succ]
     refine SeqH.take (v := ?hv53) (by rfl) ?hy53 ?hr53
     case hy53 =>
      intro w hSw
      try dsimp only at hSw
      go_simp
      try (with_reducible rfl)
     try simp only [Act.put, List.setIfInBounds_toArray, List.set_cons_zero, List.set_cons_succ]
     refine SeqH.take (v := ?hv54) (by rfl) ?hy54 ?hr54
     case hy54 =>
      intro w hSw
      try dsimp only at hSw
      go_simp
      try (with_reducible rfl)
     try simp only [Act.put, List.setIfInBounds_toArray, List.set_cons_zero, List.set_cons_succ]
     refine SeqH.take (v := ?hv55) (by rfl) ?hy55 ?hr55
     case hy55 =>
      intro w hSw
      try dsimp only at hSw
      go_simp
      try (with_reducible rfl)
     try simp only [Act.put, List.setIfInBounds_toArray, List.set_cons_zero, List.set_cons_succ]
     refine SeqH.take (v := ?hv56) (by rfl) ?hy56 ?hr56
     case hy56 =>
      intro w hSw
      try dsimp only at hSw
      go_simp
      try (with_reducible rfl)
     try simp only [Act.put, List.setIfInBounds_toArray, List.set_cons_zero, List.set_cons_succ]
     refine SeqH.take (v := ?hv57) (by rfl) ?hy57 ?hr57
     case hy57 =>
      intro w hSw
      try dsimp only at hSw
      go_simp
      try (with_reducible rfl)
     try simp only [Act.put, List.setIfInBounds_toArray, List.set_cons_zero, List.set_cons_succ]
     refine SeqH.take (v := ?hv58) (by rfl) ?hy58 ?hr58
     case hy58 =>
      intro w hSw
      try dsimp only at hSw
      go_simp
      try (with_reducible rfl)
     try simp only [Act.put, List.setIfInBounds_toArray, List.set_cons_zero, List.set_cons_succ]
     refine SeqH.take (v := ?hv59) (by rfl) ?hy59 ?hr59
     case hy59 =>
      intro w hSw
      try dsimp only at hSw
      go_simp
      try (with_reducible rfl)
     try simp only [Act.put, List.setIfInBounds_toArray, List.set_cons_zero, List.set_cons_succ]
     refine SeqH.take (v := ?hv60) (by rfl) ?hy60 ?hr60
     case hy60 =>
      intro w hSw
      try dsimp only at hSw
      go_simp
      try (with_reducible rfl)
     try simp only [Act.put, List.setIfInBounds_toArray, List.set_cons_zero, List.set_cons_succ]
     refine SeqH.call (fun K hK => ?_)
     go_simp
     refine ((unhide C2) _).mono ?_
     rintro e W ⟨rfl, rfl⟩
     go_wp2_with fail
     refine hK.out _ _ ?_ (fun hHeld => ?_)
     · exact hHeld
     clear hK K
     try simp only [Act.put, List.setIfInBounds_toArray, List.set_cons_zero, List.set_cons_succ]
     refine SeqH.take (v := ?hv61) (by rfl) ?hy61 ?hr61
     case hy61 =>
      intro w hSw
      try dsimp only at hSw
      go_simp
      try (with_reducible rfl)
     try simp only [Act.put, List.setIfInBounds_toArray, List.set_cons_zero, List.set_cons_succ]
     refine SeqH.take (v := ?hv62) (by rfl) ?hy62 ?hr62
     case hy62 =>
      intro w hSw
      try dsimp only at hSw
      go_simp
      try (with_reducible rfl)
     try simp only [Act.put, List.setIfInBounds_toArray, List.set_cons_zero, List.set_cons_succ]
     refine SeqH.take (v := ?hv63) (by rfl) ?hy63 ?hr63
     case hy63 =>
      intro w hSw
      try dsimp only at hSw
      go_simp
      try (with_reducible rfl)
     try simp only [Act.put, List.setIfInBounds_toArray, List.set_cons_zero, List.set_cons_succ]
     refine SeqH.take (v := ?hv64) (by rfl) ?hy64 ?hr64
     case hy64 =>
      intro w hSw
      try dsimp only at hSw
      go_simp
      try (with_reducible rfl)
     try simp only [Act.put, List.setIfInBounds_toArray, List.set_cons_zero, List.set_cons_succ]
     refine SeqH.take (v := ?hv65) (by rfl) ?hy65 ?hr65
     case hy65 =>
      intro w hSw
      try dsimp only at hSw
      go_simp
      try (with_reducible rfl)
     try simp only [Act.put, List.setIfInBounds_toArray, List.set_cons_zero, List.set_cons_succ]
     refine SeqH.take (v := ?hv66) (by rfl) ?hy66 ?hr66
     case hy66 =>
      intro w hSw
      try dsimp only at hSw
      go_simp
      try (with_reducible rfl)
     try simp only [Act.put, List.setIfInBounds_toArray, List.set_cons_zero, List.set_cons_succ]
     refine SeqH.take (v := ?hv67) (by rfl) ?hy67 ?hr67
     case hy67 =>
      intro w hSw
      try dsimp only at hSw
      go_simp
      try (with_reducible rfl)
     try simp only [Act.put, List.setIfInBounds_toArray, List.set_cons_zero, List.set_cons_succ]
     refine SeqH.take (v := ?hv68) (by rfl) ?hy68 ?hr68
     case hy68 =>
      intro w hSw
      try dsimp only at hSw
      go_simp
      try (with_reducible rfl)
     try simp only [Act.put, List.setIfInBounds_toArray, List.set_cons_zero, List.set_cons_succ]
     refine SeqH.take (v := ?hv69) (by rfl) ?hy69 ?hr69
     case hy69 =>
      intro w hSw
      try dsimp only at hSw
      go_simp
      try (with_reducible rfl)
     try simp only [Act.put, List.setIfInBounds_toArray, List.set_cons_zero, List.set_cons_succ]
     refine SeqH.take (v := ?hv70) (by rfl) ?hy70 ?hr70
     case hy70 =>
      intro w hSw
      try dsimp only at hSw
      go_simp
      try (with_reducible rfl)
     try simp only [Act.put, List.setIfInBounds_toArray, List.set_cons_zero, List.set_cons_succ]
     refine SeqH.take (v := ?hv71) (by rfl) ?hy71 ?hr71
     case hy71 =>
      intro w hSw
      try dsimp only at hSw
      go_simp
      try (with_reducible rfl)
     try simp only [Act.put, List.setIfInBounds_toArray, List.set_cons_zero, List.set_cons_succ]
     refine SeqH.take (v := ?hv72) (by rfl) ?hy72 ?hr72
     case hy72 =>
      intro w hSw
      try dsimp only at hSw
      go_simp
      try (with_reducible rfl)
     try simp only [Act.put, List.setIfInBounds_toArray, List.set_cons_zero, List.set_cons_succ]
     refine SeqH.take (v := ?hv73) (by rfl) ?hy73 ?hr73
     case hy73 =>
      intro w hSw
      try dsimp only at hSw
      go_simp
      try (with_reducible rfl)
     try simp only [Act.put, List.setIfInBounds_toArray, List.set_cons_zero, List.set_cons_succ]
     refine SeqH.call (fun K hK => ?_)
     go_simp
     refine (l21Less_any (px, py) (x, y) _).mono ?_
     rintro e W3 ⟨rfl, bb3⟩
     have hB3 := Below.chain (a := wE) (And.left hHeld) bb3
     go_wp2_with fail
     refine hK.out _ _ ?_ (fun hHeld => ?_)
     · exact (unhide BY) _ hB3
     clear hK K
     try simp only [Act.put, List.setIfInBounds_toArray, List.set_cons_zero, List.set_cons_succ]
     refine SeqH.take (v := ?hv74) (by rfl) ?hy74 ?hr74
     case hy74 =>
      intro w hSw
      try dsimp only at hSw
      go_simp
      try (with_reducible rfl)
     try simp only [Act.put, List.setIfInBounds_toArray, List.set_cons_zero, List.set_cons_succ]
     refine SeqH.take (v := ?hv75) (by rfl) ?hy75 ?hr75
     case hy75 =>
      intro w hSw
      try dsimp only at hSw
      go_simp
      try (with_reducible rfl)
     try simp only [Act.put, List.setIfInBounds_toArray, List.set_cons_zero, List.set_cons_succ]
     refine SeqH.take (v := ?hv76) (by rfl) ?hy76 ?hr76
     case hy76 =>
      intro w hSw
      try dsimp only at hSw
      go_simp
      try (with_reducible rfl)
     try simp only [Act.put, List.setIfInBounds_toArray, List.set_cons_zero, List.set_cons_succ]
     refine SeqH.done (NoPanic.normal ?_)
     go_wp2
     go_meet
     exact ⟨by rw [EK.out], hB3⟩
    case rest =>
     obtain ⟨rfl, hbc⟩ := hcut
     obtain ⟨wc, hwc⟩ : ∃ z, z = wOf hbc := ⟨_, rfl⟩
     unfold wOf at hwc
     subst hwc
     have hbc0 : Below w0.heap.size w0 wc := hbE0.trans (hbc.mono (by omega))
     obtain ⟨r, hr⟩ : ∃ r, edgeOk xs.length es k = r := ⟨_, rfl⟩
     rw [hr]
     have HK := Lib.hid hr
     clear hr
     cases r
     · go_wp2
       go_ret
       exact ⟨ret_bool (okG_no hkl HK.out).symm, hb0.trans (hbc0.mono (by omega))⟩
     · go_wp2
       go_roundw
       case rel =>
        refine ⟨k + 1, by go_num, by omega, hbc0, fun j hj => ?_⟩
        rcases Nat.lt_succ_iff_lt_or_eq.1 hj with h | rfl
        · exact hq.out j h
        · exact HK.out
       case measure => simp [intOf]; omega
  · go_wp2
    go_ret
    exact ⟨ret_bool (by rw [okG_yes (fun j hj => hq.out j (by omega)), HR.out, decide_eq_true (by omega)]; rfl), hb1⟩
end Go.Proofs.Ytpglmogoddgmoaa
