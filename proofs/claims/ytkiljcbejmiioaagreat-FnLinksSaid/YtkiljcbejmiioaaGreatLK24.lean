/-
  Texts joined.
-/
import Derived.Test.YtkiljcbejmiioaaGreatLK10
import Derived.Test.YtkiljcbejmiioaaGreatLK13
import Derived.Test.YtkiljcbejmiioaaGreatLK14
import Derived.Test.YtkiljcbejmiioaaGreatLK15
import Derived.Test.YtkiljcbejmiioaaGreatLK20
import Derived.Test.YtkiljcbejmiioaaGreatLK22
import Derived.Test.YtkiljcbejmiioaaGreatLK23
set_option linter.unusedVariables false
set_option linter.unusedSimpArgs false
set_option maxRecDepth 100000
set_option maxHeartbeats 40000000
namespace Go.Proofs.YtkiljcbejmiioaaGreat
open Go.RowKit
attribute [local go_sem ↓] Go.wp_at_zero Go.wp_at_succ
theorem rowsD_Mat {F : FD} (ok : F.Ok) (n : Nat) (xss : List (List Int)) : F.Mat n (rowsD n xss) := by
 obtain ⟨h2, _⟩ := ok.n_bd
 intro r hr
 obtain ⟨b, _, rfl⟩ := List.mem_map.1 hr
 refine ⟨rowB_len _ _, fun x hx => ?_⟩
 obtain ⟨k, _, rfl⟩ := List.mem_map.1 hx
 split <;> omega
def cdRes (p d : Int) (xs : List Int) (q : Int) (bss : List (List Int)) : Int × Int × List Int × List (List Int) × Int :=
 if (okF p d xs && okD q bss) = true then mkC (fdR p d xs) (form (fdR p d xs) (rowsD q.toNat bss) q.toNat) else (0, 0, [], [], 1)
def rdRes (p d : Int) (xs : List Int) (q : Int) (bss : List (List Int)) : Int × Int :=
 if (okF p d xs && okD q bss) = true then (((form (fdR p d xs) (rowsD q.toNat bss) q.toNat).length : Int), 0) else (0, 1)
end Go.Proofs.YtkiljcbejmiioaaGreat
namespace Go.Proofs.YtkiljcbejmiioaaGreat
open Go.RowKit
attribute [local go_sem ↓] Go.wp_at_zero Go.wp_at_succ
theorem reduce_all (F : FD) (tv : Value) (a : Option Addr) (c : Nat) (xss : List (List Int)) (n : Nat) (w : World) (hT : Tabs w F tv) (hG : F.Good) (hx : RdS w a xss) (hM : F.Mat n xss) :
    Calls Tryz.prog 28 #[tv, .slice a xss.length c] w fun e w' => ∃ v u d, e = .returned (.tuple #[v, u, .int .i64 d]) ∧ OwnS w' w.heap.size v (form F xss n) ∧ Own w' w.heap.size u (red F xss n).2 ∧ Below w.heap.size w w' := by
 by_cases h0 : 0 < xss.length
 · exact reduce_any F tv a c xss n w hT hG hx h0 hM
 · have hx0 : xss = [] := List.eq_nil_of_length_eq_zero (by omega)
   subst hx0
   obtain ⟨aA, cA, aS, cS, aM, cM, aI, cI, rfl, _⟩ := hT
   rw [form_nil, red_nil]
   exact reduce_nil F aA cA aS cS aM cM aI cI a c w
theorem implRDe_any (p d : Int) (a : Option Addr) (c : Nat) (xs : List Int) (q : Int) (ra : Option Addr) (rc : Nat) (bss : List (List Int)) (w : World) (hx : Rd w a xs) (hb : RdS w ra bss) (ed : I64 d) :
    Calls Tryz.prog 7 #[.agg #[.int .i64 p, .int .i64 d, .slice a xs.length c], .agg #[.int .i64 q, .slice ra bss.length rc]] w fun e w' => e = .returned (.tuple #[.int .i64 (rdRes p d xs q bss).1, .int .i64 (rdRes p d xs q bss).2]) ∧ Below w.heap.size w w' := by
 have hbl := hb.len
 have hxl := hx.len
 obtain ⟨W0, hW0⟩ : ∃ z, z = (w.alloc (.cells #[.int .i64 p, .int .i64 d, .slice a xs.length c] 30)).alloc (.cells #[.int .i64 q, .slice ra bss.length rc] 26) := ⟨_, rfl⟩
 have b0 : Below w.heap.size w W0 := by rw [hW0]; exact ((Below.refl _ _).alloc (Nat.le_refl _) _).alloc (by simp) _
 have kF : Blk W0 w.heap.size 30 #[.int .i64 p, .int .i64 d, .slice a xs.length c] := by rw [hW0]; exact (Blk.new _ _ _ rfl).alloc _
 have kD : Blk W0 (w.heap.size + 1) 26 #[.int .i64 q, .slice ra bss.length rc] := by rw [hW0]; exact Blk.new _ _ _ (by simp)
 have s0 : w.heap.size + 1 < W0.heap.size := kD.lt
 have HW := Lib.hid hW0
 have hx0 := hx.below b0
 have hb0 := hb.below b0
 clear hW0
 unfold rdRes
 have e0 := kF.cell 0
 have e1 := kF.cell 1
 have e2 := kF.cell 2
 have hV := validField_any p d a c xs W0 hx0 ed
 cases hk : okF p d xs with
 | false =>
  rw [hk] at hV
  have HV := hide hV
  clear hV hk
  rw [if_neg (by simp)]
  go_enter Tryz.func7, Tryz.ntmps7
  go_wp2_with fail
  rw [← HW.out]
  refine (unhide HV).mono ?_
  rintro e w1 ⟨rfl, b1⟩
  have hb1 := b0.trans (b1.mono (by omega))
  go_wp2
  go_ret2
  exact ⟨rfl, hb1⟩
 | true =>
  rw [hk] at hV
  have HV := hide hV
  obtain ⟨F, hG, rfl, rfl, rfl⟩ := okF_good hk
  rw [fdR_eq]
  have ok := hG.ok
  clear hV hk
  have hD := fun W (h : Below W0.heap.size W0 W) => validDesign_any q ra rc bss W (hb0.below h)
  have BD := hide (show ∀ W, Below W0.heap.size W0 W → Blk W (w.heap.size + 1) 26 #[.int .i64 q, .slice ra bss.length rc] from fun W h => kD.below h kD.lt)
  cases hk2 : okD q bss with
  | false =>
   simp only [hk2] at hD
   have HD := hide hD
   clear hD hk2
   rw [if_neg (by simp)]
   go_enter Tryz.func7, Tryz.ntmps7
   go_wp2_with fail
   rw [← HW.out]
   refine (unhide HV).mono ?_
   rintro e w1 ⟨rfl, b1⟩
   have m1 := unhide BD _ b1
   have d0 := m1.cell 0
   have d1 := m1.cell 1
   go_wp2_with fail
   refine (unhide HD _ b1).mono ?_
   rintro e w2 ⟨rfl, q2⟩
   have b2 := b1.trans (q2.mono b1.size)
   have hb2 := b0.trans (b2.mono (by omega))
   go_wp2
   go_ret2
   exact ⟨rfl, hb2⟩
  | true =>
   simp only [hk2] at hD
   have HD := hide hD
   obtain ⟨⟨hq1, hq2⟩, hm128, hblk⟩ := okD_facts hk2
   rw [if_pos (by simp)]
   obtain ⟨n, rfl⟩ := Int.eq_ofNat_of_zero_le (show 0 ≤ q by omega)
   rw [Int.toNat_natCast]
   have hmat := rowsD_Mat ok n bss
   have hro := fun W (h : Below W0.heap.size W0 W) => rowsOfBlocks_any n ra rc bss W (hb0.below h) (by omega) hm128 (fun k hk => (hblk k hk).1)
   obtain ⟨M, hM⟩ : ∃ M, M = rowsD n bss := ⟨_, rfl⟩
   simp only [← hM] at hro
   rw [← hM] at hmat ⊢
   have HRO := hide hro
   have hml : M.length ≤ 128 := by rw [hM, rowsD_len]; exact hm128
   have HTA := hide (fun W (h : Below W0.heap.size W0 W) => tablesOf_any F a c W (hx0.below h) ok)
   have HRE := hide (fun W ra rc tv (hT : Tabs W F tv) (hr : RdS W ra M) => reduce_all F tv ra rc M n W hT hG hr hmat)
   have hfl := form_len F M n
   have hpl := red_piv F M n
   obtain ⟨pv, hpv⟩ : ∃ pv, pv = (red F M n).2 := ⟨_, rfl⟩
   simp only [← hpv] at HRE
   rw [← hpv] at hfl hpl
   rw [hfl]
   clear hpv hfl
   clear hD hk2 hM hblk hro hmat
   have BX := hide (show ∀ W, Below W0.heap.size W0 W → (Below W0.heap.size W0 W ∧ W.cell? ⟨w.heap.size, 0, none⟩ = some (.int .i64 F.p) ∧ W.cell? ⟨w.heap.size, 1, none⟩ = some (.int .i64 F.k) ∧ W.cell? ⟨w.heap.size, 2, none⟩ = some (.slice a F.poly.length c) ∧ W.cell? ⟨w.heap.size + 1, 0, none⟩ = some (.int .i64 (n : Int)) ∧ W.cell? ⟨w.heap.size + 1, 1, none⟩ = some (.slice ra bss.length rc)) from fun W h => ⟨h, (kF.below h kF.lt).cell 0, (kF.below h kF.lt).cell 1, (kF.below h kF.lt).cell 2, (kD.below h kD.lt).cell 0, (kD.below h kD.lt).cell 1⟩)
   go_enter Tryz.func7, Tryz.ntmps7
   go_wp2_with fail
   rw [← HW.out]
   refine (unhide HV).mono ?_
   rintro e w1 ⟨rfl, b1⟩
   have m1 := unhide BD _ b1
   have d0 := m1.cell 0
   have d1 := m1.cell 1
   go_wp2_with fail
   refine (unhide HD _ b1).mono ?_
   rintro e w2 ⟨rfl, q2⟩
   have b2 := b1.trans (q2.mono b1.size)
   have z2 := b2.size
   clear d0 d1 e0 e1 e2
   go_upto_region 3 with fail
   refine wp_region_noPanic ?_
   refine wp_region_ord (S := (fun W => Below W0.heap.size W0 W ∧ W.cell? ⟨w.heap.size, 0, none⟩ = some (.int .i64 F.p) ∧ W.cell? ⟨w.heap.size, 1, none⟩ = some (.int .i64 F.k) ∧ W.cell? ⟨w.heap.size, 2, none⟩ = some (.slice a F.poly.length c) ∧ W.cell? ⟨w.heap.size + 1, 0, none⟩ = some (.int .i64 (n : Int)) ∧ W.cell? ⟨w.heap.size + 1, 1, none⟩ = some (.slice ra bss.length rc))) [(true, 0), (true, 2), (false, 1), (false, 3), (false, 4), (true, 5), (true, 6), (true, 7), (true, 8), (true, 9), (true, 10), (true, 11)] (by kernel_rfl) (by kernel_rfl) (by kernel_rfl) rfl (fun _ _ _ _ _ h => h) ?_ (fun hHeld => ?_)
   · exact (unhide BX) _ (b2.drew)
   refine SeqO.take (by rfl) (v := ?hv1) (by rfl) ?hy1 ?hr1
   case hy1 =>
    intro w hSw
    try dsimp only at hSw
    go_simp
    try (with_reducible rfl)
   try simp only [Act.put, List.setIfInBounds_toArray, List.set_cons_zero, List.set_cons_succ]
   refine SeqO.take (by rfl) (v := ?hv2) (by rfl) ?hy2 ?hr2
   case hy2 =>
    intro w hSw
    try dsimp only at hSw
    go_simp
    try (with_reducible rfl)
   try simp only [Act.put, List.setIfInBounds_toArray, List.set_cons_zero, List.set_cons_succ]
   refine SeqO.call (by rfl) (fun K hK => ?_)
   go_simp
   refine ((unhide HTA) _ (And.left hHeld)).mono ?_
   rintro e wt ⟨tv, rfl, T1, bt⟩
   have dt := (And.left hHeld).trans (bt.mono (And.left hHeld).size)
   have HT := hide T1
   clear hHeld T1
   refine hK.out _ _ ?_ (fun hHeld => ?_)
   · exact (unhide BX) _ dt
   clear hK K
   try simp only [Act.put, List.setIfInBounds_toArray, List.set_cons_zero, List.set_cons_succ]
   refine SeqO.call (by rfl) (fun K hK => ?_)
   go_simp
   refine ((unhide HRO) _ dt).mono ?_
   rintro e w3 ⟨v3, rfl, o3, b3⟩
   obtain ⟨a3, c3, rfl, r3⟩ := o3.form
   have d3 := dt.trans (b3.mono dt.size)
   have R3 := hide r3
   have HT3 := hide ((unhide HT).below b3)
   clear hHeld o3 r3
   refine hK.out _ _ ?_ (fun hHeld => ?_)
   · exact (unhide BX) _ d3
   clear hK K
   try simp only [Act.put, List.setIfInBounds_toArray, List.set_cons_zero, List.set_cons_succ]
   refine SeqO.call (by rfl) (fun K hK => ?_)
   go_simp
   refine ((unhide HRE) _ _ _ _ (unhide HT3) (unhide R3)).mono ?_
   rintro e w5 ⟨v5, u5, d5, rfl, o5, q5, b5⟩
   obtain ⟨a5, c5, rfl, _⟩ := o5.form
   obtain ⟨a6, c6, rfl, _, _⟩ := q5.form
   have dd5 := d3.trans (b5.mono d3.size)
   have hb5 := b0.trans (dd5.mono (by omega))
   refine hK.out _ _ ?_ (fun hHeld => ?_)
   · exact (unhide BX) _ dd5
   clear hK K
   try simp only [Act.put, List.setIfInBounds_toArray, List.set_cons_zero, List.set_cons_succ]
   refine SeqO.take (by rfl) (v := ?hv3) (by rfl) ?hy3 ?hr3
   case hy3 =>
    intro w hSw
    try dsimp only at hSw
    go_simp
    try (with_reducible rfl)
   try simp only [Act.put, List.setIfInBounds_toArray, List.set_cons_zero, List.set_cons_succ]
   refine SeqO.take (by rfl) (v := ?hv4) (by rfl) ?hy4 ?hr4
   case hy4 =>
    intro w hSw
    try dsimp only at hSw
    go_simp
    try (with_reducible rfl)
   try simp only [Act.put, List.setIfInBounds_toArray, List.set_cons_zero, List.set_cons_succ]
   refine SeqO.take (by rfl) (v := ?hv5) (by rfl) ?hy5 ?hr5
   case hy5 =>
    intro w hSw
    try dsimp only at hSw
    go_simp
    try (with_reducible rfl)
   try simp only [Act.put, List.setIfInBounds_toArray, List.set_cons_zero, List.set_cons_succ]
   refine SeqO.take (by rfl) (v := ?hv6) (by rfl) ?hy6 ?hr6
   case hy6 =>
    intro w hSw
    try dsimp only at hSw
    go_simp
    try (with_reducible rfl)
   try simp only [Act.put, List.setIfInBounds_toArray, List.set_cons_zero, List.set_cons_succ]
   refine SeqO.take (by rfl) (v := ?hv7) (by rfl) ?hy7 ?hr7
   case hy7 =>
    intro w hSw
    try dsimp only at hSw
    go_simp
    try (with_reducible rfl)
   try simp only [Act.put, List.setIfInBounds_toArray, List.set_cons_zero, List.set_cons_succ]
   refine SeqO.take (by rfl) (v := ?hv8) (by rfl) ?hy8 ?hr8
   case hy8 =>
    intro w hSw
    try dsimp only at hSw
    go_simp
    try (with_reducible rfl)
   try simp only [Act.put, List.setIfInBounds_toArray, List.set_cons_zero, List.set_cons_succ]
   refine SeqO.take (by rfl) (v := ?hv9) (by rfl) ?hy9 ?hr9
   case hy9 =>
    intro w hSw
    try dsimp only at hSw
    go_simp
    try (with_reducible rfl)
   try simp only [Act.put, List.setIfInBounds_toArray, List.set_cons_zero, List.set_cons_succ]
   refine SeqO.done (NoPanic.normal ?_)
   have HSZ := hide (fun ap cp W => size_any ap pv.length cp W)
   go_wp2_with fail
   refine (unhide HSZ _ _ _).mono ?_
   rintro e w6 ⟨rfl, rfl⟩
   go_wp2
   go_ret2
   exact ⟨rfl, hb5⟩
theorem implCDe_any (p d : Int) (a : Option Addr) (c : Nat) (xs : List Int) (q : Int) (ra : Option Addr) (rc : Nat) (bss : List (List Int)) (w : World) (hx : Rd w a xs) (hb : RdS w ra bss) (ed : I64 d) :
    Calls Tryz.prog 8 #[.agg #[.int .i64 p, .int .i64 d, .slice a xs.length c], .agg #[.int .i64 q, .slice ra bss.length rc]] w (ResC w (cdRes p d xs q bss)) := by
 have hbl := hb.len
 have hxl := hx.len
 obtain ⟨W0, hW0⟩ : ∃ z, z = ((w.alloc (.cells #[.int .i64 p, .int .i64 d, .slice a xs.length c] 30)).alloc (.cells #[.int .i64 q, .slice ra bss.length rc] 26)).alloc (.cells #[.int .i64 0, .int .i64 0, .slice none 0 0, .slice none 0 0] 36) := ⟨_, rfl⟩
 have b0 : Below w.heap.size w W0 := by rw [hW0]; exact (((Below.refl _ _).alloc (Nat.le_refl _) _).alloc (by simp) _).alloc (by simp; omega) _
 have kF : Blk W0 w.heap.size 30 #[.int .i64 p, .int .i64 d, .slice a xs.length c] := by rw [hW0]; exact ((Blk.new _ _ _ rfl).alloc _).alloc _
 have kD : Blk W0 (w.heap.size + 1) 26 #[.int .i64 q, .slice ra bss.length rc] := by rw [hW0]; exact (Blk.new _ _ _ (by simp)).alloc _
 have k0 : Blk W0 (w.heap.size + 1 + 1) 36 #[.int .i64 0, .int .i64 0, .slice none 0 0, .slice none 0 0] := by rw [hW0]; exact Blk.new _ _ _ (by simp)
 have s0 : w.heap.size + 1 + 1 < W0.heap.size := k0.lt
 have HW := Lib.hid hW0
 have hx0 := hx.below b0
 have hb0 := hb.below b0
 clear hW0
 unfold cdRes
 have e0 := kF.cell 0
 have e1 := kF.cell 1
 have e2 := kF.cell 2
 have hV := validField_any p d a c xs W0 hx0 ed
 cases hk : okF p d xs with
 | false =>
  rw [hk] at hV
  have HV := hide hV
  clear hV hk
  rw [if_neg (by simp)]
  go_enter Tryz.func8, Tryz.ntmps8
  go_wp2_with fail
  rw [← HW.out]
  refine (unhide HV).mono ?_
  rintro e w1 ⟨rfl, b1⟩
  have hb1 := b0.trans (b1.mono (by omega))
  have k1 := k0.below b1 k0.lt
  have f0 := k1.cell 0
  have f1 := k1.cell 1
  have f2 := k1.cell 2
  have f3 := k1.cell 3
  have g0 := k1.frozen 0
  have g1 := k1.frozen 1
  have g2 := k1.frozen 2
  have g3 := k1.frozen 3
  go_wp2
  refine bodyPost_ret (results_cell_tmp_row rfl _ _ (w.heap.size + 1 + 1) 36 #[.int .i64 0, .int .i64 0, .slice none 0 0, .slice none 0 0] _ rfl (k1.b4.store _ _ _ _) Tryz.underlying36 rfl (by kernel_rfl)) rfl ?_
  exact ⟨_, _, rfl, OwnC.nil _ _, Below.set4 hb1 (by omega) _ _ _ _⟩
 | true =>
  rw [hk] at hV
  have HV := hide hV
  obtain ⟨F, hG, rfl, rfl, rfl⟩ := okF_good hk
  rw [fdR_eq]
  have ok := hG.ok
  clear hV hk
  have hD := fun W (h : Below W0.heap.size W0 W) => validDesign_any q ra rc bss W (hb0.below h)
  have BD := hide (show ∀ W, Below W0.heap.size W0 W → Blk W (w.heap.size + 1) 26 #[.int .i64 q, .slice ra bss.length rc] from fun W h => kD.below h kD.lt)
  cases hk2 : okD q bss with
  | false =>
   simp only [hk2] at hD
   have HD := hide hD
   clear hD hk2
   rw [if_neg (by simp)]
   go_enter Tryz.func8, Tryz.ntmps8
   go_wp2_with fail
   rw [← HW.out]
   refine (unhide HV).mono ?_
   rintro e w1 ⟨rfl, b1⟩
   have m1 := unhide BD _ b1
   have d0 := m1.cell 0
   have d1 := m1.cell 1
   go_wp2_with fail
   refine (unhide HD _ b1).mono ?_
   rintro e w2 ⟨rfl, q2⟩
   have b2 := b1.trans (q2.mono b1.size)
   have hb2 := b0.trans (b2.mono (by omega))
   have k1 := k0.below b2 k0.lt
   have f0 := k1.cell 0
   have f1 := k1.cell 1
   have f2 := k1.cell 2
   have f3 := k1.cell 3
   have g0 := k1.frozen 0
   have g1 := k1.frozen 1
   have g2 := k1.frozen 2
   have g3 := k1.frozen 3
   go_wp2
   refine bodyPost_ret (results_cell_tmp_row rfl _ _ (w.heap.size + 1 + 1) 36 #[.int .i64 0, .int .i64 0, .slice none 0 0, .slice none 0 0] _ rfl (k1.b4.store _ _ _ _) Tryz.underlying36 rfl (by kernel_rfl)) rfl ?_
   exact ⟨_, _, rfl, OwnC.nil _ _, Below.set4 hb2 (by omega) _ _ _ _⟩
  | true =>
   simp only [hk2] at hD
   have HD := hide hD
   obtain ⟨⟨hq1, hq2⟩, hm128, hblk⟩ := okD_facts hk2
   rw [if_pos (by simp)]
   obtain ⟨n, rfl⟩ := Int.eq_ofNat_of_zero_le (show 0 ≤ q by omega)
   rw [Int.toNat_natCast]
   have hmat := rowsD_Mat ok n bss
   have hro := fun W (h : Below W0.heap.size W0 W) => rowsOfBlocks_any n ra rc bss W (hb0.below h) (by omega) hm128 (fun k hk => (hblk k hk).1)
   obtain ⟨M, hM⟩ : ∃ M, M = rowsD n bss := ⟨_, rfl⟩
   simp only [← hM] at hro
   rw [← hM] at hmat ⊢
   have HRO := hide hro
   have hml : M.length ≤ 128 := by rw [hM, rowsD_len]; exact hm128
   have HCO := hide (fun W (h : Below W0.heap.size W0 W) ra rc (hr : RdS W ra M) => codeOf_all F a c ra rc M n W (hx0.below h) hG hr hmat)
   obtain ⟨rr, hrr⟩ : ∃ rr, rr = mkC F (form F M n) := ⟨_, rfl⟩
   simp only [← hrr] at HCO
   rw [← hrr]
   obtain ⟨rp, rd, rx, ry, rz⟩ := rr
   clear hrr
   clear hD hk2 hM hblk hro hmat
   have BX := hide (show ∀ W, Below W0.heap.size W0 W → (Below W0.heap.size W0 W ∧ W.cell? ⟨w.heap.size, 0, none⟩ = some (.int .i64 F.p) ∧ W.cell? ⟨w.heap.size, 1, none⟩ = some (.int .i64 F.k) ∧ W.cell? ⟨w.heap.size, 2, none⟩ = some (.slice a F.poly.length c) ∧ W.cell? ⟨w.heap.size + 1, 0, none⟩ = some (.int .i64 (n : Int)) ∧ W.cell? ⟨w.heap.size + 1, 1, none⟩ = some (.slice ra bss.length rc)) from fun W h => ⟨h, (kF.below h kF.lt).cell 0, (kF.below h kF.lt).cell 1, (kF.below h kF.lt).cell 2, (kD.below h kD.lt).cell 0, (kD.below h kD.lt).cell 1⟩)
   go_enter Tryz.func8, Tryz.ntmps8
   go_wp2_with fail
   rw [← HW.out]
   refine (unhide HV).mono ?_
   rintro e w1 ⟨rfl, b1⟩
   have m1 := unhide BD _ b1
   have d0 := m1.cell 0
   have d1 := m1.cell 1
   go_wp2_with fail
   refine (unhide HD _ b1).mono ?_
   rintro e w2 ⟨rfl, q2⟩
   have b2 := b1.trans (q2.mono b1.size)
   have z2 := b2.size
   clear d0 d1 e0 e1 e2
   go_upto_region 3 with fail
   refine wp_region_noPanic ?_
   refine wp_region_until (S := (fun W => Below W0.heap.size W0 W ∧ W.cell? ⟨w.heap.size, 0, none⟩ = some (.int .i64 F.p) ∧ W.cell? ⟨w.heap.size, 1, none⟩ = some (.int .i64 F.k) ∧ W.cell? ⟨w.heap.size, 2, none⟩ = some (.slice a F.poly.length c) ∧ W.cell? ⟨w.heap.size + 1, 0, none⟩ = some (.int .i64 (n : Int)) ∧ W.cell? ⟨w.heap.size + 1, 1, none⟩ = some (.slice ra bss.length rc))) 6 [(0, 0), (0, 1), (1, 2), (1, 3), (0, 4), (0, 5), (2, 6), (2, 7)] (by kernel_rfl) (by kernel_rfl) (by kernel_rfl) rfl (fun _ _ _ _ _ h => h) ?_ (fun hHeld => ?_)
   · exact (unhide BX) _ (b2.drew)
   refine SeqU.take (by rfl) (v := ?hv10) (by rfl) ?hy10 ?hr10
   case hy10 =>
    intro w hSw
    try dsimp only at hSw
    go_simp
    try (with_reducible rfl)
   try simp only [Act.put, List.setIfInBounds_toArray, List.set_cons_zero, List.set_cons_succ]
   refine SeqU.take (by rfl) (v := ?hv11) (by rfl) ?hy11 ?hr11
   case hy11 =>
    intro w hSw
    try dsimp only at hSw
    go_simp
    try (with_reducible rfl)
   try simp only [Act.put, List.setIfInBounds_toArray, List.set_cons_zero, List.set_cons_succ]
   refine SeqU.call (by rfl) (fun K hK => ?_)
   go_simp
   refine ((unhide HRO) _ (And.left hHeld)).mono ?_
   rintro e w3 ⟨v3, rfl, o3, b3⟩
   obtain ⟨a3, c3, rfl, r3⟩ := o3.form
   have d3 := (And.left hHeld).trans (b3.mono (And.left hHeld).size)
   have R3 := hide r3
   clear hHeld o3 r3
   refine hK.out _ _ ?_ (fun hHeld => ?_)
   · exact (unhide BX) _ d3
   clear hK K
   try simp only [Act.put, List.setIfInBounds_toArray, List.set_cons_zero, List.set_cons_succ]
   refine SeqU.call (by rfl) (fun K hK => ?_)
   go_simp
   refine ((unhide HCO) _ d3 _ _ (unhide R3)).mono ?_
   rintro e w4 ⟨v4, u4, rfl, o4, b4⟩
   simp only [] at o4 ⊢
   obtain ⟨a4, c4, p4, d4', rfl, rfl, _, _⟩ := o4.form
   have z3 := d3.size
   have dd4 := d3.trans (b4.mono z3)
   have hb4 := b0.trans (dd4.mono (by omega))
   have k4 := k0.below dd4 k0.lt
   have f0 := k4.cell 0
   have f1 := k4.cell 1
   have f2 := k4.cell 2
   have f3 := k4.cell 3
   have g0 := k4.frozen 0
   have g1 := k4.frozen 1
   have g2 := k4.frozen 2
   have g3 := k4.frozen 3
   refine hK.out _ _ ?_ (fun hHeld => ?_)
   · exact (unhide BX) _ dd4
   clear hK K
   try simp only [Act.put, List.setIfInBounds_toArray, List.set_cons_zero, List.set_cons_succ]
   refine SeqU.take (by rfl) (v := ?hv12) (by rfl) ?hy12 ?hr12
   case hy12 =>
    intro w hSw
    try dsimp only at hSw
    go_simp
    try (with_reducible rfl)
   try simp only [Act.put, List.setIfInBounds_toArray, List.set_cons_zero, List.set_cons_succ]
   refine SeqU.take (by rfl) (v := ?hv13) (by rfl) ?hy13 ?hr13
   case hy13 =>
    intro w hSw
    try dsimp only at hSw
    go_simp
    try (with_reducible rfl)
   try simp only [Act.put, List.setIfInBounds_toArray, List.set_cons_zero, List.set_cons_succ]
   refine SeqU.last (by rfl) (fun K hK => ?_)
   go_simp
   skip
   refine hK.out _ _ ?_
   clear hK K
   try simp only [Act.put, List.setIfInBounds_toArray, List.set_cons_zero, List.set_cons_succ]
   refine SeqU.last (by rfl) (fun K hK => ?_)
   go_simp
   skip
   refine hK.out _ _ ?_
   clear hK K
   try simp only [Act.put, List.setIfInBounds_toArray, List.set_cons_zero, List.set_cons_succ]
   refine SeqU.done (NoPanic.normal ?_)
   have p3 : w.heap.size + 1 + 1 < w3.heap.size := by omega
   go_wp2_with fail
   refine bodyPost_ret (results_cell_tmp_row rfl _ _ (w.heap.size + 1 + 1) 36 #[.int .i64 rp, .int .i64 rd, .slice a4 rx.length c4, .slice p4 ry.length d4'] _ rfl (k4.b4.store _ _ _ _) Tryz.underlying36 rfl (by kernel_rfl)) rfl ?_
   refine ⟨_, _, rfl, ?_, Below.set4 hb4 (by omega) _ _ _ _⟩
   exact ((((o4.storeBelow p3 _).storeBelow p3 _).storeBelow p3 _).storeBelow p3 _).mono (by omega)
end Go.Proofs.YtkiljcbejmiioaaGreat
