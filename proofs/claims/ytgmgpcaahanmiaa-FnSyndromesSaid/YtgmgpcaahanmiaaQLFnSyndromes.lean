/-
  Proved: FnSyndromes returns true for every input and leaves its arguments as they were. No condition. Printed by gen_lsy.py.
-/
import Derived.Test.YtgmgpcaahanmiaaY21
import Derived.Test.YtgmgpcaahanmiaaY23
import Derived.Test.YtgmgpcaahanmiaaY26
import Derived.Test.YtgmgpcaahanmiaaY29
import Derived.Test.YtgmgpcaahanmiaaY31
import Derived.Test.YtgmgpcaahanmiaaY34
import Derived.Test.YtgmgpcaahanmiaaY35
set_option linter.unusedVariables false
set_option linter.unusedSimpArgs false
set_option maxRecDepth 100000
set_option maxHeartbeats 40000000
namespace Go.Proofs.Ytgmgpcaahanmiaa
open Go.RowKit
attribute [local go_sem ↓] Go.wp_at_zero Go.wp_at_succ
theorem walkFnSyndromes (a b : Option Addr) (c d : Nat) (xs ys : List Int) (w0 : World) (hxl : xs.length ≤ maxLen) (hyl : ys.length ≤ maxLen) (hx : xs.length ≤ 1048576 → RdB w0 a xs) (hy : ys.length ≤ 1048576 → RdB w0 b ys) :
    Calls Try.prog 8 #[.slice a xs.length c, .slice b ys.length d] w0 fun e w' => e = .returned (.bool true) ∧ Below w0.heap.size w0 w' := by
 have HL := hide (v8Long_any a b c d xs.length ys.length w0 hxl hyl)
 clear hxl hyl
 cases hl : (decide (1048576 < xs.length) || decide (1048576 < ys.length)) with
 | true =>
  rw [hl] at HL
  clear hl hx hy
  go_enter Try.func8, Try.ntmps8
  go_wp2_with fail
  refine (unhide HL).mono ?_
  rintro e w1 ⟨rfl, rfl⟩
  go_wp2
  go_ret
  exact ⟨rfl, Below.refl _ _⟩
 | false =>
  rw [hl] at HL
  rw [Bool.or_eq_false_iff, decide_eq_false_iff_not, decide_eq_false_iff_not] at hl
  have HX := hide (hx (by omega))
  have HY := hide (hy (by omega))
  clear hx hy hl
  go_enter Try.func8, Try.ntmps8
  go_wp2_with fail
  refine (unhide HL).mono ?_
  rintro e w1 ⟨rfl, rfl⟩
  clear HL
  go_wp2_with fail
  refine (V8Code_any a c xs w0 (unhide HX)).mono ?_
  rintro e w1 ⟨⟨F, n, m, v1, u1, rfl, hC, o1, q1⟩, b1⟩
  have hG := hC.good
  have ok := hG.ok
  obtain ⟨n2, n64⟩ := ok.n_bd
  have hp2 := ok.p2
  have hp64 := ok.p64
  have hk6 := ok.k6
  have hm1 := hC.m1
  have hm8 := hC.m8
  have hn1 := hC.n1
  have hn32 := hC.n32
  obtain ⟨a1, c1, rfl, r1, _⟩ := o1.form
  obtain ⟨ra, rc, rfl, rs1⟩ := q1.form
  have hcap1 := q1.toH.caps
  have HC := hide hC
  obtain ⟨W, hW⟩ : ∃ z, z = w1.alloc (.cells #[.int .i64 F.p, .int .i64 F.k, .slice a1 F.poly.length c1, .slice ra m.length rc] 37) := ⟨_, rfl⟩
  have bW : Below w1.heap.size w1 W := by rw [hW]; exact (Below.refl _ _).alloc (Nat.le_refl _) _
  have kC : Blk W w1.heap.size 37 #[.int .i64 F.p, .int .i64 F.k, .slice a1 F.poly.length c1, .slice ra m.length rc] := by rw [hW]; exact Blk.new _ _ _ rfl
  have hWx := Lib.hid hW
  clear hW
  go_upto_region 4 with fail
  rw [← hWx.out]
  have r := r1.below bW
  have rs := rs1.below bW
  have hcap := hcap1.below rs1 bW
  have hgC := kC.lt
  have hb0 := Below.chain b1 bW
  have z0 := hb0.size
  have zC := bW.size
  obtain ⟨gb, ob, rfl, hgb, hcb⟩ := rs.at_ (by omega : 0 < m.length)
  obtain ⟨ai, ci, hc0, _⟩ := hcb 0 (by omega)
  rw [hC.hn, Nat.add_zero] at hc0
  have boxes : ∀ W', Below W.heap.size W W' → (Below W.heap.size W W' ∧ W'.cell? ⟨w1.heap.size, 0, none⟩ = some (.int .i64 F.p) ∧ W'.cell? ⟨w1.heap.size, 1, none⟩ = some (.int .i64 F.k) ∧ W'.cell? ⟨w1.heap.size, 2, none⟩ = some (.slice a1 F.poly.length c1) ∧ W'.cell? ⟨w1.heap.size, 3, none⟩ = some (.slice (some ⟨gb, ob, none⟩) m.length rc) ∧ W'.cell? ⟨gb, ob, none⟩ = some (.slice ai n ci)) := fun W' h => ⟨h, (kC.below h hgC).cell 0, (kC.below h hgC).cell 1, (kC.below h hgC).cell 2, (kC.below h hgC).cell 3, (h.cell (p := ⟨gb, ob, none⟩) hgb).trans hc0⟩
  have BX := hide boxes
  have R := hide r
  have RS := hide rs
  have CAP := hide hcap
  have YR := hide ((unhide HY).below hb0)
  have hkI : I64 (F.k : Int) := ⟨by omega, by omega⟩
  have HKI := hide hkI
  clear boxes r rs hcap r1 rs1 hcap1 o1 q1 kC hcb hc0 bW b1 hkI HX HY hC
  have b00 := Below.refl W.heap.size W
  obtain ⟨_, e0, e1, e2, e3, e4⟩ := (unhide BX) _ b00
  go_wp2_with fail
  refine (V8Vector_any b d ys F a1 c1 n W (unhide YR) (unhide R) ok (by omega)).mono ?_
  rintro e w3 ⟨v3, v, rfl, hvl, hve, o3, d3⟩
  obtain ⟨a3, c3, rfl, r3, _⟩ := o3.form
  rw [hvl]
  clear e0 e1 e2 e3 e4
  obtain ⟨_, e0, e1, e2, e3, e4⟩ := (unhide BX) _ d3
  have z3 := d3.size
  obtain ⟨S, hS, hSl, hSz⟩ := syn_res (unhide HC) hvl hve
  have hsy := implSY_any F.p F.k a1 c1 F.poly (some ⟨gb, ob, none⟩) rc m a3 c3 v w3 ((unhide R).below d3) ((unhide RS).below d3) r3 (unhide HKI)
  rw [hS, hvl] at hsy
  have HSY := hide hsy
  have hch := fun V (h : Below w3.heap.size w3 V) => implCH_any F.p F.k a1 c1 F.poly (some ⟨gb, ob, none⟩) rc m a3 c3 v V ((unhide R).below (Below.chain d3 h)) ((unhide RS).below (Below.chain d3 h)) (r3.below h) (unhide HKI)
  rw [hSz, hvl] at hch
  have HCH := hide hch
  clear hsy hS hSz hch o3 r3 hve hvl
  go_wp2_with fail
  refine (unhide HSY).mono ?_
  rintro e w4 ⟨v4, rfl, o4, b4⟩
  have o4 : Own w4 w3.heap.size v4 S := o4
  obtain ⟨a4, c4, rfl, r4, _⟩ := o4.form
  have d4 := Below.chain d3 b4
  have R4 := hide r4
  clear o4 r4 e0 e1 e2 e3 e4
  go_wp2_with fail
  go_loopw [10, 11] (fun zv iv wr => ∃ (i : Nat) (z : Bool), iv = .int .i64 i ∧ zv = .bool z ∧ i ≤ S.length ∧ Hid (z = zf S i) ∧ Qt w4 wr) (fun _ iv _ => S.length - (intOf iv).toNat)
  case atStart => exact ⟨0, true, rfl, rfl, Nat.zero_le _, rfl, Qt.refl _⟩
  case round =>
   obtain ⟨i, z, rfl, rfl, hi, hz, hq⟩ := hrel
   by_cases hil : i < S.length
   · obtain ⟨gs, os, rfl, _, hcs⟩ := ((unhide R4).below (hq.below w4.heap.size)).at_ (by omega)
     have cs := hcs i hil
     have hst : zf S (i + 1) = (zf S i && (nth S i == 0)) := rfl
     rw [← hz.out] at hst
     obtain ⟨x, hx⟩ : ∃ x, x = nth S i := ⟨_, rfl⟩
     rw [← hx] at cs hst
     have HST := Lib.hid hst
     clear hcs hx hst
     cases z with
     | true =>
      go_wp2_with fail
      go_roundw
      case rel => exact ⟨i + 1, _, by go_num, rfl, by omega, by show _ = _; rw [HST.out, Bool.true_and], hq⟩
      case measure => simp only [intOf]; omega
     | false =>
      go_wp2_with fail
      go_roundw
      case rel => exact ⟨i + 1, _, by go_num, rfl, by omega, by show _ = _; rw [HST.out, Bool.false_and], hq⟩
      case measure => simp only [intOf]; omega
   · have hie : i = S.length := by omega
     have hzz := hz.out
     rw [hie] at hzz
     have HZ := Lib.hid hzz
     have HIE := Lib.hid hie
     clear hzz hie
     have d5 := d4.trans ((hq.below w4.heap.size).mono d4.size)
     have d35 := b4.trans ((hq.below w4.heap.size).mono b4.size)
     obtain ⟨_, e0, e1, e2, e3, e4⟩ := (unhide BX) _ d5
     go_wp2_with fail
     refine (unhide HCH _ d35).mono ?_
     rintro e w6 ⟨rfl, b6⟩
     rw [← HZ.out]
     have d6 := Below.chain d5 b6
     have hzne : (z != z) = false := by simp
     clear e0 e1 e2 e3 e4 hil
     obtain ⟨_, e0, e1, e2, e3, e4⟩ := (unhide BX) _ d6
     have hdi := specDI_any F.p F.k a1 c1 F.poly (some ⟨gb, ob, none⟩) rc m w6 ((unhide R).below d6) ((unhide RS).below d6)
     rw [dist_res (unhide HC)] at hdi
     have hD1 := (unhide HC).dist.1
     have hD2 := (unhide HC).dist.2
     obtain ⟨D, hDD⟩ : ∃ D, D = distC F n m := ⟨_, rfl⟩
     rw [← hDD] at hdi hD1 hD2
     have HDI := hide hdi
     have HDD := Lib.hid hDD
     clear hdi hDD
     go_wp2_with fail
     refine (unhide HDI).mono ?_
     rintro e w7 ⟨rfl, b7⟩
     have d7 := Below.chain d6 b7
     clear e0 e1 e2 e3 e4
     go_upto_region 17 with fail
     have hdw : Below W.heap.size W w7.drew := Below.chain d7 (Below.drewn 1)
     refine wp_region_noPanic ?_
     refine wp_region_ord (S := (fun V' => Below W.heap.size W V' ∧ V'.cell? ⟨w1.heap.size, 0, none⟩ = some (.int .i64 F.p) ∧ V'.cell? ⟨w1.heap.size, 1, none⟩ = some (.int .i64 F.k) ∧ V'.cell? ⟨w1.heap.size, 2, none⟩ = some (.slice a1 F.poly.length c1) ∧ V'.cell? ⟨w1.heap.size, 3, none⟩ = some (.slice (some ⟨gb, ob, none⟩) m.length rc) ∧ V'.cell? ⟨gb, ob, none⟩ = some (.slice ai n ci))) [(true, 0), (true, 1), (true, 2), (true, 3), (true, 4), (true, 5), (true, 6), (false, 7), (false, 8), (true, 9), (true, 10), (true, 11), (true, 12), (true, 13)] (by kernel_rfl) (by kernel_rfl) (by kernel_rfl) rfl (fun _ _ _ _ _ h => h) ?_ (fun hHeld => ?_)
     · exact (unhide BX) _ hdw
     refine SeqO.take (by rfl) (v := ?hv1) (by rfl) ?hy1 ?hr1
     case hy1 =>
      intro w hSw
      try dsimp only at hSw
      go_simp
      try (with_reducible rfl)
     try simp only [Act.put, List.setIfInBounds_toArray, List.set_cons_zero, List.set_cons_succ]
     refine SeqO.take (by rfl) (v := ?hv2) (by rfl) ?hy2 ?hr2
     case hy2 =>
      intro w hSw
      try dsimp only at hSw
      go_simp
      try (with_reducible rfl)
     try simp only [Act.put, List.setIfInBounds_toArray, List.set_cons_zero, List.set_cons_succ]
     refine SeqO.take (by rfl) (v := ?hv3) (by rfl) ?hy3 ?hr3
     case hy3 =>
      intro w hSw
      try dsimp only at hSw
      go_simp
      try (with_reducible rfl)
     try simp only [Act.put, List.setIfInBounds_toArray, List.set_cons_zero, List.set_cons_succ]
     refine SeqO.take (by rfl) (v := ?hv4) (by rfl) ?hy4 ?hr4
     case hy4 =>
      intro w hSw
      try dsimp only at hSw
      go_simp
      try (with_reducible rfl)
     try simp only [Act.put, List.setIfInBounds_toArray, List.set_cons_zero, List.set_cons_succ]
     refine SeqO.take (by rfl) (v := ?hv5) (by rfl) ?hy5 ?hr5
     case hy5 =>
      intro w hSw
      try dsimp only at hSw
      go_simp
      try (with_reducible rfl)
     try simp only [Act.put, List.setIfInBounds_toArray, List.set_cons_zero, List.set_cons_succ]
     refine SeqO.take (by rfl) (v := ?hv6) (by rfl) ?hy6 ?hr6
     case hy6 =>
      intro w hSw
      try dsimp only at hSw
      go_simp
      try (with_reducible rfl)
     try simp only [Act.put, List.setIfInBounds_toArray, List.set_cons_zero, List.set_cons_succ]
     refine SeqO.take (by rfl) (v := ?hv7) (by rfl) ?hy7 ?hr7
     case hy7 =>
      intro w hSw
      try dsimp only at hSw
      go_simp
      try (with_reducible rfl)
     try simp only [Act.put, List.setIfInBounds_toArray, List.set_cons_zero, List.set_cons_succ]
     refine SeqO.call (by rfl) (fun K hK => ?_)
     go_simp
     refine (V8Vector_any b d ys F a1 c1 m.length w7.drew ((unhide YR).below hdw) ((unhide R).below hdw) ok (by omega)).mono ?_
     rintro e w8 ⟨v8, msg, rfl, hml, hme, o8, b8⟩
     have d8 := Below.chain hdw b8
     obtain ⟨a8, c8, rfl, r8, _⟩ := o8.form
     rw [hml]
     have hew := specEW_any F.p F.k a1 c1 F.poly (some ⟨gb, ob, none⟩) rc m a8 c8 msg w8 ((unhide R).below d8) ((unhide RS).below d8) r8
     rw [enc_res (unhide HC) hml hme, hml] at hew
     have hws := encTo_sp ok (unhide HC).mat hme (Nat.le_refl m.length)
     have hwl := encTo_len F n m msg m.length
     have hwe := encTo_el ok n m msg m.length
     generalize encTo F n m msg m.length = word at hew hws hwl hwe
     have HEW := hide hew
     have HWS := hide hws
     have HWL := Lib.hid hwl
     have HWE := hide hwe
     clear hew hws hwl hwe hml hme r8 o8
     refine hK.out _ _ ?_ (fun hHeld => ?_)
     · exact (unhide BX) _ d8
     clear hK K
     try simp only [Act.put, List.setIfInBounds_toArray, List.set_cons_zero, List.set_cons_succ]
     refine SeqO.call (by rfl) (fun K hK => ?_)
     go_simp
     refine (unhide HEW).mono ?_
     rintro e w9 ⟨v9, rfl, o9, b9⟩
     have d9 := Below.chain d8 b9
     refine hK.out _ _ ?_ (fun hHeld => ?_)
     · exact (unhide BX) _ d9
     clear hK K
     try simp only [Act.put, List.setIfInBounds_toArray, List.set_cons_zero, List.set_cons_succ]
     refine SeqO.take (by rfl) (v := ?hv8) (by rfl) ?hy8 ?hr8
     case hy8 =>
      intro w hSw
      try dsimp only at hSw
      go_simp
      try (with_reducible rfl)
     try simp only [Act.put, List.setIfInBounds_toArray, List.set_cons_zero, List.set_cons_succ]
     refine SeqO.take (by rfl) (v := ?hv9) (by rfl) ?hy9 ?hr9
     case hy9 =>
      intro w hSw
      try dsimp only at hSw
      go_simp
      try (with_reducible rfl)
     try simp only [Act.put, List.setIfInBounds_toArray, List.set_cons_zero, List.set_cons_succ]
     refine SeqO.take (by rfl) (v := ?hv10) (by rfl) ?hy10 ?hr10
     case hy10 =>
      intro w hSw
      try dsimp only at hSw
      go_simp
      try (with_reducible rfl)
     try simp only [Act.put, List.setIfInBounds_toArray, List.set_cons_zero, List.set_cons_succ]
     refine SeqO.take (by rfl) (v := ?hv11) (by rfl) ?hy11 ?hr11
     case hy11 =>
      intro w hSw
      try dsimp only at hSw
      go_simp
      try (with_reducible rfl)
     try simp only [Act.put, List.setIfInBounds_toArray, List.set_cons_zero, List.set_cons_succ]
     refine SeqO.take (by rfl) (v := ?hv12) (by rfl) ?hy12 ?hr12
     case hy12 =>
      intro w hSw
      try dsimp only at hSw
      go_simp
      try (with_reducible rfl)
     try simp only [Act.put, List.setIfInBounds_toArray, List.set_cons_zero, List.set_cons_succ]
     refine SeqO.done (NoPanic.normal ?_)
     have o9 : Own w9 w8.heap.size v9 word := o9
     obtain ⟨g9, c9, rfl, _, hg9, _, _⟩ := o9.at_len (n := n) HWL.out (by omega)
     have R9 := hide o9.rd
     have z9 := d9.size
     clear o9
     go_wp2_with (at_builtin; refine wpList_append_ints rfl (.tmp 81) (.tmp 82) rfl w9.heap.size _ [] word rfl (Own.empty w9 (Nat.le_refl _)) (some ⟨g9, 0, none⟩) n c9 rfl HWL.out.symm ((unhide R9).alloc _) (by rw [HWL.out]; simp; omega) (by simp) ?_; intro v10 w10 o10 g10 _)
     have b10 : Below w9.heap.size w9 w10 := Below.step ((Below.refl _ _).alloc (Nat.le_refl _) _) g10 (Own.empty w9 (Nat.le_refl _)) (Nat.le_refl _) (by simp)
     have o10 : Own w10 w9.heap.size v10 word := by simpa using o10
     obtain ⟨g10', c10, rfl, hg10a, hg10b, _, _⟩ := o10.at_len (n := n) HWL.out (by omega)
     have z10 := b10.size
     have O10 := Lib.hid o10
     have YR9 := hide ((unhide YR).below d9)
     clear o10 g10
     go_wp2_with fail
     go_loopw [18] (fun iv wr => ∃ (i : Nat) (wd : List Int), iv = .int .i64 i ∧ i ≤ (D - 1) / 2 ∧ wd.length = n ∧ Hid (∀ x ∈ wd, 0 ≤ x ∧ x < F.n) ∧ Hid (apartTo word wd n ≤ i) ∧ Hid (Own wr w9.heap.size (.slice (some ⟨g10', 0, none⟩) n c10) wd) ∧ Below w9.heap.size w9 wr) (fun iv _ => (D - 1) / 2 - (intOf iv).toNat)
     case atStart => exact ⟨0, word, rfl, Nat.zero_le _, HWL.out, unhide HWE, by show apartTo word word n ≤ 0; rw [apart_self fun i _ => rfl]; exact Nat.le_refl _, O10, b10⟩
     case round =>
      obtain ⟨i, wd, rfl, hie, hwl, hwe, hap, ho, hb8⟩ := hrel
      have z8 := hb8.size
      by_cases hil : i < (D - 1) / 2
      · have hil2 : (i : Int) < ((D : Int) - 1) / 2 := by omega
        have hba := v8At_any b d ys i n wr ((unhide YR9).below hb8) (by omega)
        have HBA := hide hba
        have HWL2 := Lib.hid hwl
        clear hba hwl
        go_wp2_with fail
        refine (unhide HBA).mono ?_
        rintro e wr' ⟨x, rfl, hxb, rfl⟩
        have hxN : x < n := by
         rcases hxb with h | h
         · omega
         · omega
        have cx := ho.out.cell (j := x) (by rw [HWL2.out]; exact hxN)
        have fx := ho.out.frozen x
        clear hxb
        go_wp2_with fail
        go_roundw
        case rel =>
         have hs := ho.out.set x 0
         refine ⟨i + 1, wd.set x 0, by go_num, by omega, by rw [List.length_set, HWL2.out], set_bd hwe.out ⟨by omega, by omega⟩ x, ?_, hs.1, hb8.grown hs.2 z8 (fun q hq => by injection hq; omega)⟩
         show _ ≤ _
         have := apart_set (a := word) (b := wd) x 0 n
         have := hap.out
         omega
        case measure => simp only [intOf]; omega
      · have hil2 : ¬ (i : Int) < ((D : Int) - 1) / 2 := by omega
        have hapo := hap.out
        have hnw := implNW_any F.p F.k a1 c1 F.poly (some ⟨gb, ob, none⟩) rc m (some ⟨g10', 0, none⟩) c10 wd wr ((unhide R).below (Below.chain d9 hb8)) ((unhide RS).below (Below.chain d9 hb8)) ho.out.rd (unhide HKI)
        rw [near_res (unhide HC) HWL.out (unhide HWS) hwl hwe.out (by rw [← HDD.out]; omega), hwl] at hnw
        have HNW := hide hnw
        have hap2 : ((apartTo word wd n : Nat) : Int) ≤ ((D : Int) - 1) / 2 := by omega
        obtain ⟨ap, hapd⟩ : ∃ ap, ap = apartTo word wd n := ⟨_, rfl⟩
        rw [← hapd] at HNW hap2
        have d11 := Below.chain d9 hb8
        clear hnw hwl hapd hapo hil
        obtain ⟨_, e0, e1, e2, e3, e4⟩ := (unhide BX) _ d11
        go_wp2_with fail
        refine (unhide HNW).mono ?_
        rintro e w12 ⟨v12, rfl, o12, b12⟩
        have o12 : Own w12 wr.heap.size v12 word := o12
        obtain ⟨a12, c12, rfl, r12, _⟩ := o12.form
        have d12 := Below.chain d11 b12
        have heq := v8Same_any a12 (some ⟨g9, 0, none⟩) c12 c9 word word w12 r12 ((unhide R9).below (Below.chain hb8 b12))
        rw [show decide (word = word) = true from decide_eq_true rfl, HWL.out] at heq
        rw [HWL.out]
        have HEQ := hide heq
        have hbz := Below.chain hb0 d12
        clear heq o12 r12 e0 e1 e2 e3 e4
        go_wp2_with fail
        refine (unhide HEQ).mono ?_
        rintro e w13 ⟨rfl, t13⟩
        go_wp2
        go_ret
        exact ⟨rfl, Below.chain hbz (t13.below _)⟩
theorem law_FnSyndromes (X Y : SB) (w : World) (hX : X.ok w) (hY : Y.ok w) :
    Calls Try.prog 8 #[X.val, Y.val] w fun e w' => e = .returned (.bool true) ∧ Below w.heap.size w w' :=
 walkFnSyndromes X.a Y.a X.c Y.c X.xs Y.xs w hX.1 hY.1 hX.2 hY.2
namespace fnSyndromes
open Go.ChangeShapes Go.WideShapes Go.ChangeAt
theorem lifted (os : Os) (started : os.Started) (H : Type) (enc : TypeId × Value → H) :
    ReturnsInHanded {} Try.checked os 8 .any (Rows.fnSyndromesSpec.pre6 enc Try.prog Try.f8 Rows.fnSyndromesRow.domain false) (Rows.fnSyndromesSpec.post enc Try.prog Try.f8 false true false false) := by
 refine returnsInHanded_of_change (C := Try.checked) ownKnob_none started (by kernel_rfl) Try.func8
  (ChangeSpec.witness6 (enc := enc) (C := Try.checked) false ⟨#[], #[.slice none 0 0, .slice none 0 0], []⟩ 8 (by kernel_rfl) (by kernel_rfl) (by kernel_rfl) (by kernel_rfl)) ?_
 intro W base args ds gs before hval0 hW _ _
 have hval : ∀ (j : Nat) t v, Try.f8.params[j]? = some t → args[j]? = some v → Value.okWide Try.prog W .any base t v := hval0
 have hW' := hW
 obtain ⟨p, q, hA0, hV, rfl, hfz, hnd⟩ := hW
 have hA : DataW.TrodAll enc Try.prog W 0 (fun _ => true) true Try.f8.params.toList args.toList ds p := hA0
 rw [Try.params8] at hA hval
 obtain ⟨v0, vs0, d0, ds0, p0, q0, hargs, rfl, rfl, h0, r0⟩ := trodAll_cons hA
 obtain ⟨v1, vs1, d1, ds1, p1, q1, rfl, rfl, rfl, h1, r1⟩ := trodAll_cons r0
 obtain ⟨rfl, rfl, rfl⟩ := trodAll_nil r1
 obtain rfl : args = #[v0, v1] := by cases args; simp_all
 obtain ⟨rfl, rfl⟩ := trodVars_none hV
 have k0 := h0
 have lt0 : ∀ x ∈ p0, x.block < W.heap.size := by obtain ⟨m, hm⟩ := k0; exact DataW.trod_lt m _ _ _ hm
 obtain ⟨X0, rfl, e0⟩ := open_sb (hval 0 29 v0 rfl rfl) h0
 have k1 := h1
 have lt1 : ∀ x ∈ p1, x.block < W.heap.size := by obtain ⟨m, hm⟩ := k1; exact DataW.trod_lt m _ _ _ hm
 obtain ⟨X1, rfl, e1⟩ := open_sb (hval 1 29 v1 rfl rfl) h1
 clear hA0 hval0
 refine (law_FnSyndromes X0  X1  W e0 e1).mono fun e W' ⟨he, bel⟩ => ?_
 subst he
 exact ⟨_, rfl, _, _, _, [], _, [], hW', trodAll_mk1 (shut_bool Try.underlying4 _), (trodAll_cons_mk (Below.trod laidOut_ok (by kernel_rfl) (of_decide_eq_true (by kernel_rfl)) k0 bel lt0) (trodAll_cons_mk (Below.trod laidOut_ok (by kernel_rfl) (of_decide_eq_true (by kernel_rfl)) k1 bel lt1) trodAll_mk0)), rfl, bel.frame _, fun h => by cases h⟩
theorem over : Rows.fnSyndromesRow.holds Try.pinned (OpenSpec.ofChange Rows.fnSyndromesSpec) :=
 OpenClaim.holds_of_wide 8 Try.f8 rfl rfl rfl rfl rfl rfl rfl ⟨rfl, rfl, rfl, rfl, rfl⟩ rfl rfl rfl rfl rfl (by kernel_rfl) Try.func8 (by kernel_rfl)
  (of_decide_eq_true (by kernel_rfl)) (by unfold Func.isWrapper; first | (rw [if_pos (by decide +kernel)]; kernel_rfl) | (rw [if_neg (by decide +kernel)]; exact ⟨rfl, rfl⟩))
  (fun os started H enc _ => lifted os started H enc)
theorem proved : Rows.FnSyndromesSaid := over
end fnSyndromes
end Go.Proofs.Ytgmgpcaahanmiaa
