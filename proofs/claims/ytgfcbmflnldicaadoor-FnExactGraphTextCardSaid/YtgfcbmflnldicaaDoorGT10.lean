/-
  Texts joined.
-/
import Derived.Test.YtgfcbmflnldicaaDoorGT6
import Derived.Test.YtgfcbmflnldicaaDoorGT7
import Derived.Test.YtgfcbmflnldicaaDoorGT8
import Derived.Test.YtgfcbmflnldicaaDoorGT9
set_option linter.unusedVariables false
set_option linter.unusedSimpArgs false
set_option maxRecDepth 100000
set_option maxHeartbeats 40000000
namespace Go.Proofs.YtgfcbmflnldicaaDoor
open Go.RowKit
attribute [local go_sem ↓] Go.wp_at_zero Go.wp_at_succ
def ep (es : List (Int × Int)) : List (List UInt8) := es.map fun e => Lib.decDigits e.1.toNat ++ [45] ++ Lib.decDigits e.2.toNat
def textG (xs : List Int) (es : List (Int × Int)) : List UInt8 := textL xs ++ [59] ++ Lib.join (ep es) [44]
theorem ep_len (es : List (Int × Int)) : (ep es).length = es.length := List.length_map _
theorem ep_nth {es : List (Int × Int)} {i : Nat} (h : i < es.length) : nthB (ep es) i = Lib.decDigits (nthE es i).1.toNat ++ [45] ++ Lib.decDigits (nthE es i).2.toNat := by
 rw [nthB, ep, List.getD_eq_getElem?_getD, List.getElem?_map, List.getElem?_eq_getElem h, nthE_lt h]
 rfl
theorem ep_in {n : Nat} {xs : List Int} {es : List (Int × Int)} (h : GG n xs es) {i : Nat} (hi : i < es.length) : ∃ u v : Nat, nthE es i = ((u : Int), (v : Int)) ∧ u < 64 ∧ v < 64 := by
 have hm : nthE es i ∈ es := by rw [nthE_lt hi]; exact List.getElem_mem _
 have h1 := h.lo _ hm
 have h2 := h.lt _ hm
 have h3 := h.hi _ hm
 have h4 := h.n64
 exact ⟨(nthE es i).1.toNat, (nthE es i).2.toNat, by rw [Int.toNat_of_nonneg h1, Int.toNat_of_nonneg (by omega)], by omega, by omega⟩
theorem ep_small {n : Nat} {xs : List Int} {es : List (Int × Int)} (h : GG n xs es) : ∀ t ∈ ep es, t.length ≤ 5 := by
 intro t ht
 obtain ⟨e, he, rfl⟩ := List.mem_map.1 ht
 obtain ⟨k, hk, rfl⟩ := List.getElem_of_mem he
 obtain ⟨u, v, huv, hu, hv⟩ := ep_in h hk
 rw [nthE_lt hk] at huv
 rw [huv]
 have h1 := dec_len (n := u) (by omega)
 have h2 := dec_len (n := v) (by omega)
 simp only [Int.toNat_natCast, List.length_append, List.length_cons, List.length_nil]
 omega
theorem textL_len {xs : List Int} (h : colorsOk xs = true) : (textL xs).length ≤ 200 := by
 have hl : xs.length ≤ 64 := by unfold colorsOk at h; rw [Bool.and_eq_true, decide_eq_true_eq] at h; exact h.1
 unfold textL
 split
 · simp
 · have h1 := tx_len (lp_small h) (lp xs).length (Nat.le_refl _)
   rw [tx_all, lp_len] at h1
   omega
def tg (xs : List Int) (es : List (Int × Int)) (i : Nat) : List UInt8 := textL xs ++ [59] ++ tx (ep es) i
theorem tg_len {xs : List Int} {es : List (Int × Int)} (h : GG xs.length xs es) {i : Nat} (hi : i ≤ es.length) : (tg xs es i).length ≤ 4000 := by
 have h1 := textL_len h.cols
 have h2 := tx_len (ep_small h) i (by rw [ep_len]; exact hi)
 have h3 := h.m512
 rw [tg, List.length_append, List.length_append]
 simp only [List.length_cons, List.length_nil]
 omega
theorem l21Text_any (a : Option Addr) (c : Nat) (xs : List Int) (ra : Option Addr) (rc : Nat) (es : List (Int × Int)) (w : World) (hx : Rd w a xs) (hes : RdE w ra es) (hk : okG xs es = true) :
    Calls Tryd.prog 12 #[.agg #[.slice a xs.length c, .slice ra es.length rc]] w fun e w' => e = .returned (.string ⟨(textG xs es).toArray⟩) ∧ Below w.heap.size w w' := by
 have hG := okG_iff.1 hk
 obtain ⟨W0, hW0⟩ : ∃ W0, W0 = w.alloc (.cells #[.slice a xs.length c, .slice ra es.length rc] 30) := ⟨_, rfl⟩
 have b0 : Below w.heap.size w W0 := by rw [hW0]; exact (Below.refl _ _).alloc (Nat.le_refl _) _
 have k0 : Blk W0 w.heap.size 30 #[.slice a xs.length c, .slice ra es.length rc] := by rw [hW0]; exact Blk.new _ _ _ rfl
 have z0 := k0.lt
 have HX := hide (specLT_any a c xs W0 (hx.below b0) hG.cols)
 have HE := hide (hes.below b0)
 have f0 := k0.cell 0
 have f1 := k0.cell 1
 have HG := hide hG
 have hl := textL_len hG.cols
 have HW := Lib.hid hW0
 have m512 := hG.m512
 clear hW0 hx hes hG hk
 rw [HW.out] at f0
 go_enter Tryd.func12, Tryd.ntmps12
 go_wp2_with fail
 rw [← HW.out]
 refine (unhide HX).mono ?_
 rintro e w1 ⟨rfl, b1⟩
 obtain ⟨TL, hTL⟩ : ∃ T, T = textL xs := ⟨_, rfl⟩
 rw [← hTL] at hl ⊢
 have zz : ¬ 9223372036854775807 < TL.length + 1 := by omega
 have hE0 : (⟨TL.toArray⟩ : ByteArray) ++ ⟨#[59]⟩ = ⟨(tg xs es 0).toArray⟩ := by rw [ba_app1, hTL]; simp [tg, tx_zero]
 have HE0 := Lib.hid hE0
 have HEb := hide ((unhide HE).below b1)
 have BX := hide (show ∀ V, Below w1.heap.size w1 V → V.cell? ⟨w.heap.size, 1, none⟩ = some (.slice ra es.length rc) from fun V h => (h.cell (p := ⟨w.heap.size, 1, none⟩) (by have := b1.size; show w.heap.size < w1.heap.size; omega)).trans ((b1.cell (p := ⟨w.heap.size, 1, none⟩) z0).trans f1))
 have hb01 := b0.trans (b1.mono b0.size)
 clear hE0 f0 f1 hTL b1 b0 hl
 go_wp2_with fail
 go_loopw [3, 4] (fun sv iv wr => ∃ i : Nat, iv = .int .i64 i ∧ i ≤ es.length ∧ sv = .string ⟨(tg xs es i).toArray⟩ ∧ Below w1.heap.size w1 wr) (fun _ iv _ => es.length - (intOf iv).toNat)
 case atStart => exact ⟨0, rfl, Nat.zero_le _, by rw [← HE0.out], Below.refl _ _⟩
 case round =>
  obtain ⟨i, rfl, hi, rfl, hb⟩ := hrel
  rename World => wo
  have hTl := tg_len (unhide HG) hi
  have f1 := (unhide BX) wo hb
  obtain ⟨T, hT⟩ : ∃ T, T = tg xs es i := ⟨_, rfl⟩
  rw [← hT] at hTl ⊢
  by_cases hil : i < es.length
  · obtain ⟨b, o, rfl, hbb, hcc⟩ := (unhide HEb).at_ (by omega)
    obtain ⟨c1, c2⟩ := hcc i hil
    obtain ⟨u, v, huv, hu, hv⟩ := ep_in (unhide HG) hil
    rw [huv] at c1 c2
    have hwd : Below wo.heap.size wo wo.drew := Below.drewn 1
    have BR := hide (show ∀ V, Below wo.heap.size wo V → (Below wo.heap.size wo V ∧ V.cell? ⟨w.heap.size, 1, none⟩ = some (.slice (some ⟨b, o, none⟩) es.length rc) ∧ V.cell? ⟨b, o + i * 2, none⟩ = some (.int .i64 u) ∧ V.cell? ⟨b, o + i * 2 + 1, none⟩ = some (.int .i64 v)) from fun V h => ⟨h, (unhide BX) V (hb.trans (h.mono hb.size)), ((hb.trans (h.mono hb.size)).cell (p := ⟨b, o + i * 2, none⟩) hbb).trans c1, ((hb.trans (h.mono hb.size)).cell (p := ⟨b, o + i * 2 + 1, none⟩) hbb).trans c2⟩)
    have HD1 := hide (fun V (_ : Below wo.heap.size wo V) => specDec_any u (by omega) V)
    have HD2 := hide (fun V (_ : Below wo.heap.size wo V) => specDec_any v (by omega) V)
    have hp := ep_nth hil
    rw [huv] at hp
    simp only [Int.toNat_natCast] at hp
    have l1 := dec_len (n := u) (by omega)
    have l2 := dec_len (n := v) (by omega)
    obtain ⟨D1, hD1⟩ : ∃ D, D = Lib.decDigits u := ⟨_, rfl⟩
    obtain ⟨D2, hD2⟩ : ∃ D, D = Lib.decDigits v := ⟨_, rfl⟩
    rw [← hD1] at HD1 hp l1
    rw [← hD2] at HD2 hp l2
    have y1 : ¬ 9223372036854775807 < D1.length + 1 := by omega
    have y2 : ¬ 9223372036854775807 < D1.length + 1 + D2.length := by omega
    have y3 : ¬ 9223372036854775807 < T.length + (D1.length + 1 + D2.length) := by omega
    have y4 : ¬ 9223372036854775807 < T.length + 1 := by omega
    have y5 : ¬ 9223372036854775807 < T.length + 1 + (D1.length + 1 + D2.length) := by omega
    have HT := Lib.hid hT
    have HP := Lib.hid hp
    clear hT hp hcc c1 c2 huv hD1 hD2 hTl l1 l2
    by_cases hi0 : 0 < i
    · have g1 : (0 : Int) < (i : Int) := by omega
      have HS := Lib.hid (tx_step (L := ep es) (by rw [ep_len]; exact hil) hi0)
      have hE : ((⟨T.toArray⟩ : ByteArray) ++ ⟨#[44]⟩) ++ (((⟨D1.toArray⟩ : ByteArray) ++ ⟨#[45]⟩) ++ ⟨D2.toArray⟩) = ⟨(tg xs es (i + 1)).toArray⟩ := by
       rw [ba_app1, ba_app1, ba_app, ba_app, tg, HS.out, HP.out, HT.out, tg]
       simp
      have HEE := Lib.hid hE
      clear hE
      go_upto_region 7 with fail
      refine wp_region_noPanic ?_
      refine wp_region_ord (S := (fun W => Below wo.heap.size wo W ∧ W.cell? ⟨w.heap.size, 1, none⟩ = some (.slice (some ⟨b, o, none⟩) es.length rc) ∧ W.cell? ⟨b, o + i * 2, none⟩ = some (.int .i64 u) ∧ W.cell? ⟨b, o + i * 2 + 1, none⟩ = some (.int .i64 v))) [(true, 0), (true, 1), (true, 2), (true, 3), (true, 4), (true, 5), (true, 6), (true, 9), (true, 10), (true, 11), (true, 12), (true, 13), (true, 14), (false, 7), (true, 8), (false, 15), (true, 16), (true, 17), (true, 18)] (by kernel_rfl) (by kernel_rfl) (by kernel_rfl) rfl (fun _ _ _ _ _ h => h) ?_ (fun hHeld => ?_)
      · exact (unhide BR) _ hwd
      refine SeqO.take (by rfl) (v := ?hv1) (by rfl) ?hy1 ?hr1
      case hy1 =>
       intro w hSw
       try dsimp only at hSw
       go_simp
       try (with_reducible rfl)
      try simp only [Act.put, List.setIfInBounds_toArray, List.set_cons_zero, List.set_cons_succ]
      refine SeqO.take (by rfl) (v := ?hv2) (by rfl) ?hy2 ?hr2
      case hy2 =>
       intro w hSw
       try dsimp only at hSw
       go_simp
       try (with_reducible rfl)
      try simp only [Act.put, List.setIfInBounds_toArray, List.set_cons_zero, List.set_cons_succ]
      refine SeqO.take (by rfl) (v := ?hv3) (by rfl) ?hy3 ?hr3
      case hy3 =>
       intro w hSw
       try dsimp only at hSw
       go_simp
       try (with_reducible rfl)
      try simp only [Act.put, List.setIfInBounds_toArray, List.set_cons_zero, List.set_cons_succ]
      refine SeqO.take (by rfl) (v := ?hv4) (by rfl) ?hy4 ?hr4
      case hy4 =>
       intro w hSw
       try dsimp only at hSw
       go_simp
       try (with_reducible rfl)
      try simp only [Act.put, List.setIfInBounds_toArray, List.set_cons_zero, List.set_cons_succ]
      refine SeqO.take (by rfl) (v := ?hv5) (by rfl) ?hy5 ?hr5
      case hy5 =>
       intro w hSw
       try dsimp only at hSw
       go_simp
       try (with_reducible rfl)
      try simp only [Act.put, List.setIfInBounds_toArray, List.set_cons_zero, List.set_cons_succ]
      refine SeqO.take (by rfl) (v := ?hv6) (by rfl) ?hy6 ?hr6
      case hy6 =>
       intro w hSw
       try dsimp only at hSw
       go_simp
       try (with_reducible rfl)
      try simp only [Act.put, List.setIfInBounds_toArray, List.set_cons_zero, List.set_cons_succ]
      refine SeqO.take (by rfl) (v := ?hv7) (by rfl) ?hy7 ?hr7
      case hy7 =>
       intro w hSw
       try dsimp only at hSw
       go_simp
       try (with_reducible rfl)
      try simp only [Act.put, List.setIfInBounds_toArray, List.set_cons_zero, List.set_cons_succ]
      refine SeqO.take (by rfl) (v := ?hv8) (by rfl) ?hy8 ?hr8
      case hy8 =>
       intro w hSw
       try dsimp only at hSw
       go_simp
       try (with_reducible rfl)
      try simp only [Act.put, List.setIfInBounds_toArray, List.set_cons_zero, List.set_cons_succ]
      refine SeqO.take (by rfl) (v := ?hv9) (by rfl) ?hy9 ?hr9
      case hy9 =>
       intro w hSw
       try dsimp only at hSw
       go_simp
       try (with_reducible rfl)
      try simp only [Act.put, List.setIfInBounds_toArray, List.set_cons_zero, List.set_cons_succ]
      refine SeqO.take (by rfl) (v := ?hv10) (by rfl) ?hy10 ?hr10
      case hy10 =>
       intro w hSw
       try dsimp only at hSw
       go_simp
       try (with_reducible rfl)
      try simp only [Act.put, List.setIfInBounds_toArray, List.set_cons_zero, List.set_cons_succ]
      refine SeqO.take (by rfl) (v := ?hv11) (by rfl) ?hy11 ?hr11
      case hy11 =>
       intro w hSw
       try dsimp only at hSw
       go_simp
       try (with_reducible rfl)
      try simp only [Act.put, List.setIfInBounds_toArray, List.set_cons_zero, List.set_cons_succ]
      refine SeqO.take (by rfl) (v := ?hv12) (by rfl) ?hy12 ?hr12
      case hy12 =>
       intro w hSw
       try dsimp only at hSw
       go_simp
       try (with_reducible rfl)
      try simp only [Act.put, List.setIfInBounds_toArray, List.set_cons_zero, List.set_cons_succ]
      refine SeqO.take (by rfl) (v := ?hv13) (by rfl) ?hy13 ?hr13
      case hy13 =>
       intro w hSw
       try dsimp only at hSw
       go_simp
       try (with_reducible rfl)
      try simp only [Act.put, List.setIfInBounds_toArray, List.set_cons_zero, List.set_cons_succ]
      refine SeqO.call (by rfl) (fun K hK => ?_)
      go_simp
      refine (unhide HD1 _ hwd).mono ?_
      rintro e w1 ⟨rfl, b1⟩
      have d1 := hwd.trans (b1.mono hwd.size)
      refine hK.out _ _ ?_ (fun hHeld => ?_)
      · exact (unhide BR) _ d1
      clear hK K
      try simp only [Act.put, List.setIfInBounds_toArray, List.set_cons_zero, List.set_cons_succ]
      refine SeqO.take (by rfl) (v := ?hv14) (by rfl) ?hy14 ?hr14
      case hy14 =>
       intro w hSw
       try dsimp only at hSw
       go_simp
       try (with_reducible rfl)
      try simp only [Act.put, List.setIfInBounds_toArray, List.set_cons_zero, List.set_cons_succ]
      refine SeqO.call (by rfl) (fun K hK => ?_)
      go_simp
      refine (unhide HD2 _ d1).mono ?_
      rintro e w2 ⟨rfl, b2⟩
      have d2 := d1.trans (b2.mono d1.size)
      refine hK.out _ _ ?_ (fun hHeld => ?_)
      · exact (unhide BR) _ d2
      clear hK K
      try simp only [Act.put, List.setIfInBounds_toArray, List.set_cons_zero, List.set_cons_succ]
      refine SeqO.take (by rfl) (v := ?hv15) (by rfl) ?hy15 ?hr15
      case hy15 =>
       intro w hSw
       try dsimp only at hSw
       go_simp
       try (with_reducible rfl)
      try simp only [Act.put, List.setIfInBounds_toArray, List.set_cons_zero, List.set_cons_succ]
      refine SeqO.take (by rfl) (v := ?hv16) (by rfl) ?hy16 ?hr16
      case hy16 =>
       intro w hSw
       try dsimp only at hSw
       go_simp
       try (with_reducible rfl)
      try simp only [Act.put, List.setIfInBounds_toArray, List.set_cons_zero, List.set_cons_succ]
      refine SeqO.take (by rfl) (v := ?hv17) (by rfl) ?hy17 ?hr17
      case hy17 =>
       intro w hSw
       try dsimp only at hSw
       go_simp
       try (with_reducible rfl)
      try simp only [Act.put, List.setIfInBounds_toArray, List.set_cons_zero, List.set_cons_succ]
      refine SeqO.done (NoPanic.normal ?_)
      go_wp2_with fail
      go_roundw
      case rel => exact ⟨i + 1, by go_num, by omega, by rw [← HEE.out], hb.trans (d2.mono hb.size)⟩
      case measure => simp only [intOf]; omega
    · have g1 : ¬ (0 : Int) < (i : Int) := by omega
      have HS := Lib.hid (tx_one (L := ep es) (by rw [ep_len]; omega))
      have hi00 : i = 0 := by omega
      have hE : (⟨T.toArray⟩ : ByteArray) ++ (((⟨D1.toArray⟩ : ByteArray) ++ ⟨#[45]⟩) ++ ⟨D2.toArray⟩) = ⟨(tg xs es (i + 1)).toArray⟩ := by
       have hP := HP.out
       rw [hi00] at hP
       have hT := HT.out
       rw [hi00] at hT
       rw [ba_app1, ba_app, ba_app, tg, hi00, HS.out, hP, hT, tg, tx_zero]
       simp
      have HEE := Lib.hid hE
      clear hE hi00
      go_upto_region 7 with fail
      refine wp_region_noPanic ?_
      refine wp_region_ord (S := (fun W => Below wo.heap.size wo W ∧ W.cell? ⟨w.heap.size, 1, none⟩ = some (.slice (some ⟨b, o, none⟩) es.length rc) ∧ W.cell? ⟨b, o + i * 2, none⟩ = some (.int .i64 u) ∧ W.cell? ⟨b, o + i * 2 + 1, none⟩ = some (.int .i64 v))) [(true, 0), (true, 1), (true, 2), (true, 3), (true, 4), (true, 5), (true, 6), (true, 9), (true, 10), (true, 11), (true, 12), (true, 13), (true, 14), (false, 7), (true, 8), (false, 15), (true, 16), (true, 17), (true, 18)] (by kernel_rfl) (by kernel_rfl) (by kernel_rfl) rfl (fun _ _ _ _ _ h => h) ?_ (fun hHeld => ?_)
      · exact (unhide BR) _ hwd
      refine SeqO.take (by rfl) (v := ?hv18) (by rfl) ?hy18 ?hr18
      case hy18 =>
       intro w hSw
       try dsimp only at hSw
       go_simp
       try (with_reducible rfl)
      try simp only [Act.put, List.setIfInBounds_toArray, List.set_cons_zero, List.set_cons_succ]
      refine SeqO.take (by rfl) (v := ?hv19) (by rfl) ?hy19 ?hr19
      case hy19 =>
       intro w hSw
       try dsimp only at hSw
       go_simp
       try (with_reducible rfl)
      try simp only [Act.put, List.setIfInBounds_toArray, List.set_cons_zero, List.set_cons_succ]
      refine SeqO.take (by rfl) (v := ?hv20) (by rfl) ?hy20 ?hr20
      case hy20 =>
       intro w hSw
       try dsimp only at hSw
       go_simp
       try (with_reducible rfl)
      try simp only [Act.put, List.setIfInBounds_toArray, List.set_cons_zero, List.set_cons_succ]
      refine SeqO.take (by rfl) (v := ?hv21) (by rfl) ?hy21 ?hr21
      case hy21 =>
       intro w hSw
       try dsimp only at hSw
       go_simp
       try (with_reducible rfl)
      try simp only [Act.put, List.setIfInBounds_toArray, List.set_cons_zero, List.set_cons_succ]
      refine SeqO.take (by rfl) (v := ?hv22) (by rfl) ?hy22 ?hr22
      case hy22 =>
       intro w hSw
       try dsimp only at hSw
       go_simp
       try (with_reducible rfl)
      try simp only [Act.put, List.setIfInBounds_toArray, List.set_cons_zero, List.set_cons_succ]
      refine SeqO.take (by rfl) (v := ?hv23) (by rfl) ?hy23 ?hr23
      case hy23 =>
       intro w hSw
       try dsimp only at hSw
       go_simp
       try (with_reducible rfl)
      try simp only [Act.put, List.setIfInBounds_toArray, List.set_cons_zero, List.set_cons_succ]
      refine SeqO.take (by rfl) (v := ?hv24) (by rfl) ?hy24 ?hr24
      case hy24 =>
       intro w hSw
       try dsimp only at hSw
       go_simp
       try (with_reducible rfl)
      try simp only [Act.put, List.setIfInBounds_toArray, List.set_cons_zero, List.set_cons_succ]
      refine SeqO.take (by rfl) (v := ?hv25) (by rfl) ?hy25 ?hr25
      case hy25 =>
       intro w hSw
       try dsimp only at hSw
       go_simp
       try (with_reducible rfl)
      try simp only [Act.put, List.setIfInBounds_toArray, List.set_cons_zero, List.set_cons_succ]
      refine SeqO.take (by rfl) (v := ?hv26) (by rfl) ?hy26 ?hr26
      case hy26 =>
       intro w hSw
       try dsimp only at hSw
       go_simp
       try (with_reducible rfl)
      try simp only [Act.put, List.setIfInBounds_toArray, List.set_cons_zero, List.set_cons_succ]
      refine SeqO.take (by rfl) (v := ?hv27) (by rfl) ?hy27 ?hr27
      case hy27 =>
       intro w hSw
       try dsimp only at hSw
       go_simp
       try (with_reducible rfl)
      try simp only [Act.put, List.setIfInBounds_toArray, List.set_cons_zero, List.set_cons_succ]
      refine SeqO.take (by rfl) (v := ?hv28) (by rfl) ?hy28 ?hr28
      case hy28 =>
       intro w hSw
       try dsimp only at hSw
       go_simp
       try (with_reducible rfl)
      try simp only [Act.put, List.setIfInBounds_toArray, List.set_cons_zero, List.set_cons_succ]
      refine SeqO.take (by rfl) (v := ?hv29) (by rfl) ?hy29 ?hr29
      case hy29 =>
       intro w hSw
       try dsimp only at hSw
       go_simp
       try (with_reducible rfl)
      try simp only [Act.put, List.setIfInBounds_toArray, List.set_cons_zero, List.set_cons_succ]
      refine SeqO.take (by rfl) (v := ?hv30) (by rfl) ?hy30 ?hr30
      case hy30 =>
       intro w hSw
       try dsimp only at hSw
       go_simp
       try (with_reducible rfl)
      try simp only [Act.put, List.setIfInBounds_toArray, List.set_cons_zero, List.set_cons_succ]
      refine SeqO.call (by rfl) (fun K hK => ?_)
      go_simp
      refine (unhide HD1 _ hwd).mono ?_
      rintro e w1 ⟨rfl, b1⟩
      have d1 := hwd.trans (b1.mono hwd.size)
      refine hK.out _ _ ?_ (fun hHeld => ?_)
      · exact (unhide BR) _ d1
      clear hK K
      try simp only [Act.put, List.setIfInBounds_toArray, List.set_cons_zero, List.set_cons_succ]
      refine SeqO.take (by rfl) (v := ?hv31) (by rfl) ?hy31 ?hr31
      case hy31 =>
       intro w hSw
       try dsimp only at hSw
       go_simp
       try (with_reducible rfl)
      try simp only [Act.put, List.setIfInBounds_toArray, List.set_cons_zero, List.set_cons_succ]
      refine SeqO.call (by rfl) (fun K hK => ?_)
      go_simp
      refine (unhide HD2 _ d1).mono ?_
      rintro e w2 ⟨rfl, b2⟩
      have d2 := d1.trans (b2.mono d1.size)
      refine hK.out _ _ ?_ (fun hHeld => ?_)
      · exact (unhide BR) _ d2
      clear hK K
      try simp only [Act.put, List.setIfInBounds_toArray, List.set_cons_zero, List.set_cons_succ]
      refine SeqO.take (by rfl) (v := ?hv32) (by rfl) ?hy32 ?hr32
      case hy32 =>
       intro w hSw
       try dsimp only at hSw
       go_simp
       try (with_reducible rfl)
      try simp only [Act.put, List.setIfInBounds_toArray, List.set_cons_zero, List.set_cons_succ]
      refine SeqO.take (by rfl) (v := ?hv33) (by rfl) ?hy33 ?hr33
      case hy33 =>
       intro w hSw
       try dsimp only at hSw
       go_simp
       try (with_reducible rfl)
      try simp only [Act.put, List.setIfInBounds_toArray, List.set_cons_zero, List.set_cons_succ]
      refine SeqO.take (by rfl) (v := ?hv34) (by rfl) ?hy34 ?hr34
      case hy34 =>
       intro w hSw
       try dsimp only at hSw
       go_simp
       try (with_reducible rfl)
      try simp only [Act.put, List.setIfInBounds_toArray, List.set_cons_zero, List.set_cons_succ]
      refine SeqO.done (NoPanic.normal ?_)
      go_wp2_with fail
      go_roundw
      case rel => exact ⟨i + 1, by go_num, by omega, by rw [← HEE.out], hb.trans (d2.mono hb.size)⟩
      case measure => simp only [intOf]; omega
  · obtain rfl : i = es.length := by omega
    have hR : T = textG xs es := by rw [hT, tg, textG, ← ep_len es, tx_all]
    have HR := Lib.hid hR
    have HB := Below.trans hb01 (hb.mono hb01.size)
    clear hR hT hTl
    go_wp2_with fail
    go_ret
    exact ⟨by rw [← HR.out]; rfl, HB⟩
end Go.Proofs.YtgfcbmflnldicaaDoor
