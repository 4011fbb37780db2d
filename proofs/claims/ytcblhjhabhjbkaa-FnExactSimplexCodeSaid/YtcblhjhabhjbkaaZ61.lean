/-
  Walks: HammingCode and SimplexCode, on both sides. Printed by gen_ham.py.
-/
import Derived.BigQuiet
import Derived.BigRegion
import Derived.ChangeOld
import Derived.Deep.DeepCutAuto
import Derived.Deep.DeepMust
import Derived.Deep.DrawnRows
import Derived.Deep.Draws
import Derived.Deep.OwnRows
import Derived.Deep.QuietTactic
import Derived.Deep.RegionHeld3
import Derived.Deep.Slices
import Derived.IntWalk
import Derived.Laws.Rows
import Derived.Lib.Hide
import Derived.Maps.AppendAt
import Derived.OpenShut
import Derived.OwnWalk
import Derived.ProofKit
import Derived.ShutString
import Derived.StillTailTactics
import Derived.Test.YtcblhjhabhjbkaaProg
import Derived.Test.YtcblhjhabhjbkaaRows
import Derived.WalkKit
import Derived.WalkLawsBesides
import Derived.WalkSpells
import Derived.Test.YtcblhjhabhjbkaaZ5
import Derived.Test.YtcblhjhabhjbkaaZ8
import Derived.Test.YtcblhjhabhjbkaaZ14
import Derived.Test.YtcblhjhabhjbkaaZ15
import Derived.Test.YtcblhjhabhjbkaaZ35
import Derived.Test.YtcblhjhabhjbkaaZ38
import Derived.Test.YtcblhjhabhjbkaaZ47
import Derived.Test.YtcblhjhabhjbkaaZ59
import Derived.Test.YtcblhjhabhjbkaaZ60
set_option linter.unusedVariables false
set_option linter.unusedSimpArgs false
namespace Go.Proofs.Ytcblhjhabhjbkaa
open Go.RowKit
attribute [local go_sem ↓] Go.wp_at_zero Go.wp_at_succ
theorem results_cell_tmp2_row {P : Program} {fn : Func} {p u v : Tmp} {ty : TypeId} (h : fn.results = #[.cell p ty, .tmp u, .tmp v]) (tmps : Array Value) (w : World) (g : Nat) (t : TypeId) (cs : Array Value) (d : TypeDesc)
    (hp : tmps.getD p undef = .pointer (some ⟨g, 0, none⟩)) (hg : Blk w g t cs)
    (hu : P.underlying ty = some d) (hd : (match d with | .struct _ | .array _ _ => true | _ => false) = true) (hi : (P.info? ty).map (·.size) = some cs.size) :
    (results fn tmps).run P w = .ok (.tuple #[.agg cs, tmps.getD u undef, tmps.getD v undef]) w := by
  have e : (results fn tmps).run P w = ((asAddr (tmps.getD p undef)).run P w).andThen fun a w₁ => ((loadVar ty a).run P w₁).andThen fun x w₂ => .ok (.tuple #[x, tmps.getD u undef, tmps.getD v undef]) w₂ := by
    simp only [results, h]
    simp [Sem.run_bind, Result.andThen]
  rw [e, hp]
  simp [asAddr, run_loadVar_row w g t ty cs (0, 0) d hg hu hd hi, Result.andThen]
theorem hcols_bd {q r : Int} (hf : isField q = true) (hc : colsOk q r = true) : 2 ≤ r.toNat ∧ r.toNat ≤ 4 ∧ 3 ≤ (hcols q r).length ∧ (hcols q r).length ≤ 32 ∧ (fdOf q).Mat r.toNat (hcols q r) := by
  obtain ⟨h2, h64, _⟩ := isField_size hf
  obtain ⟨hr2, hr4, hm⟩ := colsOk_true hc
  obtain ⟨ok, hq, hs⟩ := fdOf_ok hf
  have hl := hcols_len (q := q) (r := r) h2
  have h3 := many_two (q := q.toNat) (by omega) (r := r.toNat) (by omega)
  have he := hcols_el (q := q) (r := r) h2 (by omega)
  refine ⟨by omega, by omega, by omega, by omega, fun xs hx => ⟨(he xs hx).1, fun x h => ?_⟩⟩
  have := (he xs hx).2 x h
  have := ok.n_eq
  omega
def hamRes (q r : Int) : Int × Int × List Int × List (List Int) × Int := if (isField q && colsOk q r) = true then mkC (fdOf q) (nul (fdOf q) (cols (hcols q r) r.toNat) (hcols q r).length) else (0, 0, [], [], 2)
def simRes (q r : Int) : Int × Int × List Int × List (List Int) × Int := if (isField q && colsOk q r) = true then mkC (fdOf q) (form (fdOf q) (cols (hcols q r) r.toNat) (hcols q r).length) else (0, 0, [], [], 2)
set_option maxRecDepth 100000 in
set_option maxHeartbeats 1600000 in
theorem checked_yes (q r : Int) (w : World) (hf : isField q = true) (hc : colsOk q r = true) :
    Calls Try.prog 87 #[.int .i64 q, .int .i64 r] w fun e w' => ∃ v u, e = .returned (.tuple #[.agg #[.int .i64 (fdOf q).p, .int .i64 (fdOf q).k, v], u, .int .i64 0]) ∧ Own w' w.heap.size v (fdOf q).poly ∧ OwnS w' w.heap.size u (hcols q r) ∧ Below w.heap.size w w' := by
  obtain ⟨W0, hHW⟩ : ∃ z, z = w.alloc (.cells #[.int .i64 0, .int .i64 0, .slice none 0 0] 29) := ⟨_, rfl⟩
  have b0 : Below w.heap.size w W0 := by rw [hHW]; exact (Below.refl _ _).alloc (Nat.le_refl _) _
  have kr : Blk W0 w.heap.size 29 #[.int .i64 0, .int .i64 0, .slice none 0 0] := by rw [hHW]; exact Blk.new _ _ _ rfl
  have sk0 : w.heap.size < W0.heap.size := kr.lt
  have HW := Lib.hid hHW
  clear hHW
  obtain ⟨h2, h64, _⟩ := isField_size hf
  have hM := implMake_any q W0 hf
  have hCC := fun W => checkColumns_any q.toNat r W (by omega) (by omega)
  rw [Int.toNat_of_nonneg (show 0 ≤ q by omega), hc] at hCC
  have hCC : ∀ W, Calls Try.prog 131 #[.int .i64 q, .int .i64 r] W fun e w' => ∃ v, e = .returned (.tuple #[v, .bool true]) ∧ OwnS w' W.heap.size v (hcols q r) ∧ Below W.heap.size W w' := hCC
  generalize fdOf q = F at hM ⊢
  obtain ⟨C, hC⟩ : ∃ C, C = hcols q r := ⟨_, rfl⟩
  rw [← hC] at hCC ⊢
  have HM := hide hM
  have HCC := hide hCC
  clear hM hCC hC hf hc
  go_enter Try.func87, Try.ntmps87
  go_upto_region 1 with fail
  rw [← HW.out]
  go_wp2_with fail
  refine (unhide HM).mono ?_
  rintro e w1 ⟨v1, rfl, o1, b1⟩
  obtain ⟨a1, c1, rfl, r1, _⟩ := o1.form
  obtain ⟨W1, hHF⟩ : ∃ z, z = w1.alloc (.cells #[.int .i64 F.p, .int .i64 F.k, .slice a1 F.poly.length c1] 29) := ⟨_, rfl⟩
  have bF : Below w1.heap.size w1 W1 := by rw [hHF]; exact (Below.refl _ _).alloc (Nat.le_refl _) _
  have kF : Blk W1 w1.heap.size 29 #[.int .i64 F.p, .int .i64 F.k, .slice a1 F.poly.length c1] := by rw [hHF]; exact Blk.new _ _ _ rfl
  have HF := Lib.hid hHF
  clear hHF
  have c1x := Below.chain b1 bF
  have z1 := c1x.size
  have o1x := o1.below bF (Nat.le_refl _)
  have kF1 := kF
  go_upto_region 2 with fail
  rw [← HF.out]
  go_wp2_with fail
  refine (unhide HCC _).mono ?_
  rintro e w2 ⟨v2, rfl, o2, b2⟩
  have kF2 := kF.below b2 kF.lt
  have c2 := Below.chain c1x b2
  have kr2 := kr.below c2 kr.lt
  have o3 := o1x.below b2 (Nat.le_refl _)
  obtain ⟨a2, d2, rfl, _⟩ := o2.form
  have f0 := kF2.cell 0
  have f1 := kF2.cell 1
  have f2 := kF2.cell 2
  have r0 := kr2.cell 0
  have r1 := kr2.cell 1
  have r2 := kr2.cell 2
  have s0 := kr2.frozen 0
  have s1 := kr2.frozen 1
  have s2 := kr2.frozen 2
  go_wp2
  refine bodyPost_ret (results_cell_tmp2_row rfl _ _ w.heap.size 29 #[.int .i64 F.p, .int .i64 F.k, .slice a1 F.poly.length c1] _ rfl (kr2.b3.store _ _ _) Try.underlying29 rfl (by kernel_rfl)) rfl ?_
  refine ⟨_, _, rfl, ?_, ?_, Below.set3 (b0.trans (c2.mono (Nat.le_of_lt sk0))) (Nat.le_refl _) _ _ _⟩
  · exact (((o3.storeBelow (by show w.heap.size < _; omega) _).storeBelow (by show w.heap.size < _; omega) _).storeBelow (by show w.heap.size < _; omega) _).mono (by omega)
  · exact (((o2.storeBelow (by show w.heap.size < _; omega) _).storeBelow (by show w.heap.size < _; omega) _).storeBelow (by show w.heap.size < _; omega) _).mono (by omega)
set_option maxRecDepth 100000 in
set_option maxHeartbeats 1600000 in
theorem checked_no (q r : Int) (w : World) (hn : (isField q && colsOk q r) = false) :
    Calls Try.prog 87 #[.int .i64 q, .int .i64 r] w fun e w' => e = .returned (.tuple #[.agg #[.int .i64 0, .int .i64 0, .slice none 0 0], .slice none 0 0, .int .i64 2]) ∧ Below w.heap.size w w' := by
  obtain ⟨W0, hHW⟩ : ∃ z, z = w.alloc (.cells #[.int .i64 0, .int .i64 0, .slice none 0 0] 29) := ⟨_, rfl⟩
  have b0 : Below w.heap.size w W0 := by rw [hHW]; exact (Below.refl _ _).alloc (Nat.le_refl _) _
  have kr : Blk W0 w.heap.size 29 #[.int .i64 0, .int .i64 0, .slice none 0 0] := by rw [hHW]; exact Blk.new _ _ _ rfl
  have sk0 : w.heap.size < W0.heap.size := kr.lt
  have HW := Lib.hid hHW
  clear hHW
  by_cases hf : isField q = true
  ·
    obtain ⟨h2, h64, _⟩ := isField_size hf
    have hc : colsOk q r = false := by rw [hf, Bool.true_and] at hn; exact hn
    have hM := implMake_any q W0 hf
    have hCC := fun W => checkColumns_any q.toNat r W (by omega) (by omega)
    rw [Int.toNat_of_nonneg (show 0 ≤ q by omega), hc] at hCC
    have hCC : ∀ W, Calls Try.prog 131 #[.int .i64 q, .int .i64 r] W fun e w' => ∃ v, e = .returned (.tuple #[v, .bool false]) ∧ OwnS w' W.heap.size v [] ∧ Below W.heap.size W w' := hCC
    generalize fdOf q = F at hM
    have HM := hide hM
    have HCC := hide hCC
    clear hM hCC hf hc hn
    go_enter Try.func87, Try.ntmps87
    go_upto_region 1 with fail
    rw [← HW.out]
    go_wp2_with fail
    refine (unhide HM).mono ?_
    rintro e w1 ⟨v1, rfl, o1, b1⟩
    obtain ⟨a1, c1, rfl, r1, _⟩ := o1.form
    obtain ⟨W1, hHF⟩ : ∃ z, z = w1.alloc (.cells #[.int .i64 F.p, .int .i64 F.k, .slice a1 F.poly.length c1] 29) := ⟨_, rfl⟩
    have bF : Below w1.heap.size w1 W1 := by rw [hHF]; exact (Below.refl _ _).alloc (Nat.le_refl _) _
    have kF : Blk W1 w1.heap.size 29 #[.int .i64 F.p, .int .i64 F.k, .slice a1 F.poly.length c1] := by rw [hHF]; exact Blk.new _ _ _ rfl
    have HF := Lib.hid hHF
    clear hHF
    have c1x := Below.chain b1 bF
    go_upto_region 2 with fail
    rw [← HF.out]
    go_wp2_with fail
    refine (unhide HCC _).mono ?_
    rintro e w2 ⟨v2, rfl, o2, b2⟩
    have c2 := Below.chain c1x b2
    have kr2 := kr.below c2 kr.lt
    obtain ⟨a2, d2, rfl, _⟩ := o2.form
    have r0 := kr2.cell 0
    have r1 := kr2.cell 1
    have r2 := kr2.cell 2
    have s0 := kr2.frozen 0
    have s1 := kr2.frozen 1
    have s2 := kr2.frozen 2
    go_wp2
    refine bodyPost_ret (results_cell_tmp2_row rfl _ _ w.heap.size 29 #[.int .i64 0, .int .i64 0, .slice none 0 0] _ rfl (kr2.b3.store _ _ _) Try.underlying29 rfl (by kernel_rfl)) rfl ?_
    exact ⟨rfl, Below.set3 (b0.trans (c2.mono (Nat.le_of_lt sk0))) (Nat.le_refl _) _ _ _⟩
  ·
    have hM := MakeField_no q W0 (by simpa using hf)
    have HM := hide hM
    clear hM hf hn
    go_enter Try.func87, Try.ntmps87
    go_upto_region 1 with fail
    rw [← HW.out]
    go_wp2_with fail
    refine (unhide HM).mono ?_
    rintro e w1 ⟨v1, rfl, o1, b1⟩
    obtain ⟨a1, c1, rfl, r1, _⟩ := o1.form
    obtain ⟨W1, hHF⟩ : ∃ z, z = w1.alloc (.cells #[.int .i64 0, .int .i64 0, .slice a1 0 c1] 29) := ⟨_, rfl⟩
    have bF : Below w1.heap.size w1 W1 := by rw [hHF]; exact (Below.refl _ _).alloc (Nat.le_refl _) _
    have kF : Blk W1 w1.heap.size 29 #[.int .i64 0, .int .i64 0, .slice a1 0 c1] := by rw [hHF]; exact Blk.new _ _ _ rfl
    have HF := Lib.hid hHF
    clear hHF
    have c1x := Below.chain b1 bF
    have kr2 := kr.below c1x kr.lt
    go_upto_region 2 with fail
    rw [← HF.out]
    have r0 := kr2.cell 0
    have r1 := kr2.cell 1
    have r2 := kr2.cell 2
    have s0 := kr2.frozen 0
    have s1 := kr2.frozen 1
    have s2 := kr2.frozen 2
    go_wp2
    refine bodyPost_ret (results_cell_tmp2_row rfl _ _ w.heap.size 29 #[.int .i64 0, .int .i64 0, .slice none 0 0] _ rfl (kr2.b3.store _ _ _) Try.underlying29 rfl (by kernel_rfl)) rfl ?_
    exact ⟨rfl, Below.set3 (b0.trans (c1x.mono (Nat.le_of_lt sk0))) (Nat.le_refl _) _ _ _⟩
/-- What is held while the code is made: the field's box, the field, the columns, the result's box. -/
structure HamH (w : World) (B g : Nat) (F : FD) (a : Option Addr) (c : Nat) (b : Option Addr) (d : Nat) (C : List (List Int)) (W : World) : Prop where
  bel : Below w.heap.size w W
  lt : w.heap.size < B ∧ B ≤ W.heap.size ∧ g < W.heap.size ∧ w.heap.size ≠ g
  kF : Blk W g 29 #[.int .i64 F.p, .int .i64 F.k, .slice a F.poly.length c]
  po : Own W B (.slice a F.poly.length c) F.poly
  co : OwnS W B (.slice b C.length d) C
  kr : B4 W w.heap.size 31
theorem HamH.next {w : World} {B g : Nat} {F : FD} {a : Option Addr} {c : Nat} {b : Option Addr} {d : Nat} {C : List (List Int)} {W W' : World} (h : HamH w B g F a c b d C W) (hb : Below W.heap.size W W') : HamH w B g F a c b d C W' := by
  have hz := hb.size
  obtain ⟨x, y, z, u, hk⟩ := h.kr
  have hl := h.lt
  exact ⟨h.bel.trans (hb.mono (by omega)), ⟨hl.1, by omega, by omega, hl.2.2.2⟩, h.kF.below hb h.kF.lt, h.po.below hb (Nat.le_refl _), h.co.below hb (Nat.le_refl _), ⟨_, _, _, _, hk.below hb hk.lt⟩⟩
theorem HamH.store {w : World} {B g : Nat} {F : FD} {a : Option Addr} {c : Nat} {b : Option Addr} {d : Nat} {C : List (List Int)} {W : World} (h : HamH w B g F a c b d C W) (x y z u : Value) : HamH w B g F a c b d C ((((W.setCell ⟨w.heap.size, 0, none⟩ x).setCell ⟨w.heap.size, 1, none⟩ y).setCell ⟨w.heap.size, 2, none⟩ z).setCell ⟨w.heap.size, 3, none⟩ u) := by
  have hl := h.lt
  have hne : g ≠ w.heap.size := Ne.symm hl.2.2.2
  refine ⟨Below.set4 h.bel (Nat.le_refl _) _ _ _ _, ⟨hl.1, ?_, ?_, hl.2.2.2⟩, ?_, ?_, ?_, ?_⟩
  · simpa using hl.2.1
  · simpa using hl.2.2.1
  · exact (((h.kF.far (p := ⟨w.heap.size, 0, none⟩) hne _).far (p := ⟨w.heap.size, 1, none⟩) hne _).far (p := ⟨w.heap.size, 2, none⟩) hne _).far (p := ⟨w.heap.size, 3, none⟩) hne _
  · exact (((h.po.storeBelow (by show w.heap.size < _; omega) _).storeBelow (by show w.heap.size < _; omega) _).storeBelow (by show w.heap.size < _; omega) _).storeBelow (by show w.heap.size < _; omega) _
  · exact (((h.co.storeBelow (by show w.heap.size < _; omega) _).storeBelow (by show w.heap.size < _; omega) _).storeBelow (by show w.heap.size < _; omega) _).storeBelow (by show w.heap.size < _; omega) _
  · exact ⟨_, _, _, _, h.kr.store x y z u⟩
end Go.Proofs.Ytcblhjhabhjbkaa

/-
  Walks: HammingCode of the program. Printed by gen_ham.py. Printed by gen_ham.py.
-/
namespace Go.Proofs.Ytcblhjhabhjbkaa
open Go.RowKit
attribute [local go_sem ↓] Go.wp_at_zero Go.wp_at_succ
set_option maxRecDepth 100000 in
set_option maxHeartbeats 3200000 in
theorem implHC_any (q r : Int) (w : World) : Calls Try.prog 30 #[.int .i64 q, .int .i64 r] w (ResC w (hamRes q r)) := by
  obtain ⟨W0, hHW⟩ : ∃ z, z = w.alloc (.cells #[.int .i64 0, .int .i64 0, .slice none 0 0, .slice none 0 0] 31) := ⟨_, rfl⟩
  have b0 : Below w.heap.size w W0 := by rw [hHW]; exact (Below.refl _ _).alloc (Nat.le_refl _) _
  have kr : Blk W0 w.heap.size 31 #[.int .i64 0, .int .i64 0, .slice none 0 0, .slice none 0 0] := by rw [hHW]; exact Blk.new _ _ _ rfl
  have sk0 : w.heap.size < W0.heap.size := kr.lt
  have HW := Lib.hid hHW
  clear hHW
  generalize hR : hamRes q r = rr
  cases hk : (isField q && colsOk q r) with
  | false =>
    have HN := Lib.hid (show rr = (0, 0, [], [], 2) by rw [← hR, hamRes, hk]; rfl)
    have hV := checked_no q r W0 hk
    have HV := hide hV
    clear hV hk hR
    go_enter Try.func30, Try.ntmps30
    go_upto_region 1 with fail
    rw [← HW.out]
    go_wp2_with fail
    refine (unhide HV).mono ?_
    rintro e w1 ⟨rfl, b1⟩
    obtain ⟨W1, hHF⟩ : ∃ z, z = w1.alloc (.cells #[.int .i64 0, .int .i64 0, .slice none 0 0] 29) := ⟨_, rfl⟩
    have bF : Below w1.heap.size w1 W1 := by rw [hHF]; exact (Below.refl _ _).alloc (Nat.le_refl _) _
    have kF : Blk W1 w1.heap.size 29 #[.int .i64 0, .int .i64 0, .slice none 0 0] := by rw [hHF]; exact Blk.new _ _ _ rfl
    have HF := Lib.hid hHF
    clear hHF
    have c1x := Below.chain b1 bF
    have kr2 := kr.below c1x kr.lt
    go_upto_region 2 with fail
    rw [← HF.out]
    have r0 := kr2.cell 0
    have r1 := kr2.cell 1
    have r2 := kr2.cell 2
    have r3 := kr2.cell 3
    have s0 := kr2.frozen 0
    have s1 := kr2.frozen 1
    have s2 := kr2.frozen 2
    have s3 := kr2.frozen 3
    go_wp2
    refine bodyPost_ret (results_cell_tmp_row rfl _ _ w.heap.size 31 #[.int .i64 0, .int .i64 0, .slice none 0 0, .slice none 0 0] _ rfl (kr2.b4.store _ _ _ _) Try.underlying31 rfl (by kernel_rfl)) rfl ?_
    rw [HN.out]
    exact ⟨_, _, rfl, OwnC.nil _ _, Below.set4 (b0.trans (c1x.mono (Nat.le_of_lt sk0))) (Nat.le_refl _) _ _ _ _⟩
  | true =>
    obtain ⟨hf, hc⟩ : isField q = true ∧ colsOk q r = true := by rw [Bool.and_eq_true] at hk; exact hk
    obtain ⟨hr2, hr4, hC3, hC32, hCM⟩ := hcols_bd hf hc
    have hG := fdOf_good hf
    have ok := hG.ok
    obtain ⟨n2, n64⟩ := ok.n_bd
    have hV := checked_yes q r W0 hf hc
    have hRR : rr = mkC (fdOf q) (nul (fdOf q) (cols (hcols q r) r.toNat) (hcols q r).length) := by rw [← hR, hamRes, hk]; rfl
    have hr0 := (colsOk_true hc).1
    obtain ⟨R, rfl⟩ := Int.eq_ofNat_of_zero_le (show 0 ≤ r by omega)
    clear hk hc hR hr0 hf
    rw [Int.toNat_natCast] at *
    generalize fdOf q = F at *
    generalize hcols q R = C at *
    have hl : ∀ xs ∈ C, xs.length = R := fun xs h => (hCM xs h).1
    have hT := fun a c W (h : Rd W a F.poly) => tablesOf_any F a c W h ok
    have hCO := fun a d W (h : RdS W a C) => columnsOf_any a d C R W h hl (by omega) (by omega)
    have hMM := cols_Mat ok hCM
    have hMl := cols_len C R
    obtain ⟨M, hM⟩ : ∃ M, M = cols C R := ⟨_, rfl⟩
    rw [← hM] at hCO hMM hMl hRR
    have hNS := fun tv a d W hT (hy : RdS W a M) => nullSpace_any F tv a d M C.length W hT hG hy (by omega) hMM (by omega) (by omega)
    have hNM := nul_Mat ok M C.length
    have hNF := nul_fix hG (m := M) (n := C.length)
    obtain ⟨N, hN⟩ : ∃ N, N = nul F M C.length := ⟨_, rfl⟩
    rw [← hN] at hNS hNM hNF hRR
    have hCD := fun a c b d W (hx : Rd W a F.poly) (hy : RdS W b N) => codeOf_all F a c b d N C.length W hx hG hy hNM
    rw [hNF] at hCD
    have HT := hide hT
    have HCO := hide hCO
    have HNS := hide hNS
    have HCD := hide hCD
    have HRR := Lib.hid hRR
    have HV := hide hV
    clear hT hCO hNS hCD hRR hV hMM hM hN hl hCM hMl hNM hNF
    go_enter Try.func30, Try.ntmps30
    go_upto_region 1 with fail
    rw [← HW.out]
    go_wp2_with fail
    refine (unhide HV).mono ?_
    rintro e w1 ⟨v1, u1, rfl, o1, q1, b1⟩
    obtain ⟨a1, c1, rfl, _, _⟩ := o1.form
    obtain ⟨au, cu, rfl, _⟩ := q1.form
    obtain ⟨W1, hHF⟩ : ∃ z, z = w1.alloc (.cells #[.int .i64 F.p, .int .i64 F.k, .slice a1 F.poly.length c1] 29) := ⟨_, rfl⟩
    have bF : Below w1.heap.size w1 W1 := by rw [hHF]; exact (Below.refl _ _).alloc (Nat.le_refl _) _
    have kF : Blk W1 w1.heap.size 29 #[.int .i64 F.p, .int .i64 F.k, .slice a1 F.poly.length c1] := by rw [hHF]; exact Blk.new _ _ _ rfl
    have HF := Lib.hid hHF
    clear hHF
    have c1x := Below.chain b1 bF
    have z1 := b1.size
    have zF := kF.lt
    have hH0 : HamH w W0.heap.size w1.heap.size F a1 c1 au cu C W1 := ⟨b0.trans (c1x.mono (Nat.le_of_lt sk0)), ⟨sk0, c1x.size, zF, by omega⟩, kF, o1.below bF (Nat.le_refl _), q1.below bF (Nat.le_refl _), (kr.below c1x kr.lt).b4⟩
    have BX := hide (show ∀ W, HamH w W0.heap.size w1.heap.size F a1 c1 au cu C W → (HamH w W0.heap.size w1.heap.size F a1 c1 au cu C W ∧ W.cell? ⟨w1.heap.size, 0, none⟩ = some (.int .i64 F.p) ∧ W.cell? ⟨w1.heap.size, 1, none⟩ = some (.int .i64 F.k) ∧ W.cell? ⟨w1.heap.size, 2, none⟩ = some (.slice a1 F.poly.length c1)) from fun W h => ⟨h, h.kF.cell 0, h.kF.cell 1, h.kF.cell 2⟩)
    have hH1 := hH0.next (Below.refl _ _).drew
    clear b1 bF kF o1 q1 c1x
    go_upto_region 4 with fail
    rw [← HF.out]
    refine wp_region_noPanic ?_
    refine wp_region_ord (S := (fun W => HamH w W0.heap.size w1.heap.size F a1 c1 au cu C W ∧ W.cell? ⟨w1.heap.size, 0, none⟩ = some (.int .i64 F.p) ∧ W.cell? ⟨w1.heap.size, 1, none⟩ = some (.int .i64 F.k) ∧ W.cell? ⟨w1.heap.size, 2, none⟩ = some (.slice a1 F.poly.length c1))) [(true, 0), (true, 1), (true, 3), (true, 4), (true, 6), (true, 7), (false, 2), (false, 5), (false, 8), (false, 9), (true, 10), (true, 11), (false, 12), (true, 13)] (by kernel_rfl) (by kernel_rfl) (by kernel_rfl) rfl (fun _ _ _ _ _ h => h) ?_ (fun hHeld => ?_)
    · exact (unhide BX) _ hH1
    refine SeqO.take (by rfl) (v := ?hv1) (by rfl) ?hy1 ?hr1
    case hy1 =>
      intro w hSw
      try dsimp only at hSw
      go_simp
      try (with_reducible rfl)
    try simp only [Act.put, List.setIfInBounds_toArray, List.set_cons_zero, List.set_cons_succ]
    refine SeqO.take (by rfl) (v := ?hv2) (by rfl) ?hy2 ?hr2
    case hy2 =>
      intro w hSw
      try dsimp only at hSw
      go_simp
      try (with_reducible rfl)
    try simp only [Act.put, List.setIfInBounds_toArray, List.set_cons_zero, List.set_cons_succ]
    refine SeqO.take (by rfl) (v := ?hv3) (by rfl) ?hy3 ?hr3
    case hy3 =>
      intro w hSw
      try dsimp only at hSw
      go_simp
      try (with_reducible rfl)
    try simp only [Act.put, List.setIfInBounds_toArray, List.set_cons_zero, List.set_cons_succ]
    refine SeqO.take (by rfl) (v := ?hv4) (by rfl) ?hy4 ?hr4
    case hy4 =>
      intro w hSw
      try dsimp only at hSw
      go_simp
      try (with_reducible rfl)
    try simp only [Act.put, List.setIfInBounds_toArray, List.set_cons_zero, List.set_cons_succ]
    refine SeqO.take (by rfl) (v := ?hv5) (by rfl) ?hy5 ?hr5
    case hy5 =>
      intro w hSw
      try dsimp only at hSw
      go_simp
      try (with_reducible rfl)
    try simp only [Act.put, List.setIfInBounds_toArray, List.set_cons_zero, List.set_cons_succ]
    refine SeqO.take (by rfl) (v := ?hv6) (by rfl) ?hy6 ?hr6
    case hy6 =>
      intro w hSw
      try dsimp only at hSw
      go_simp
      try (with_reducible rfl)
    try simp only [Act.put, List.setIfInBounds_toArray, List.set_cons_zero, List.set_cons_succ]
    refine SeqO.call (by rfl) (fun K hK => ?_)
    go_simp
    refine (unhide HT _ _ _ hH1.po.rd).mono ?_
    rintro e w2 ⟨tv, rfl, t2, b2⟩
    have hB2 := hH1.next b2
    go_wp2_with fail
    refine hK.out _ _ ?_ (fun hHeld => ?_)
    · exact (unhide BX) _ hB2
    clear hK K
    try simp only [Act.put, List.setIfInBounds_toArray, List.set_cons_zero, List.set_cons_succ]
    refine SeqO.call (by rfl) (fun K hK => ?_)
    go_simp
    refine (unhide HCO _ _ _ hB2.co.rd).mono ?_
    rintro e w3 ⟨u, rfl, o3, b3⟩
    obtain ⟨ax, cx, rfl, r3⟩ := o3.form
    have hB3 := hB2.next b3
    go_wp2_with fail
    refine hK.out _ _ ?_ (fun hHeld => ?_)
    · exact (unhide BX) _ hB3
    clear hK K
    try simp only [Act.put, List.setIfInBounds_toArray, List.set_cons_zero, List.set_cons_succ]
    refine SeqO.call (by rfl) (fun K hK => ?_)
    go_simp
    refine (unhide HNS tv ax cx _ (t2.below b3) (r3)).mono ?_
    rintro e w4 ⟨u4, rfl, o4, b4⟩
    obtain ⟨ay, cy, rfl, r4⟩ := o4.form
    have hB4 := hB3.next b4
    go_wp2_with fail
    refine hK.out _ _ ?_ (fun hHeld => ?_)
    · exact (unhide BX) _ hB4
    clear hK K
    try simp only [Act.put, List.setIfInBounds_toArray, List.set_cons_zero, List.set_cons_succ]
    refine SeqO.call (by rfl) (fun K hK => ?_)
    go_simp
    refine (unhide HCD _ _ ay cy _ hB4.po.rd r4).mono ?_
    rintro e w5 ⟨v5, u5, rfl, o5, b5⟩
    have hB5 := hB4.next b5
    obtain ⟨qq, hqq⟩ : ∃ qq, qq = mkC F N := ⟨_, rfl⟩
    rw [← hqq] at o5 ⊢
    obtain ⟨rp, rd, rx, ry, rz⟩ := qq
    simp only [] at o5 ⊢
    obtain ⟨a5, c5, p5, d5, rfl, rfl, _, _⟩ := o5.form
    have HQ := Lib.hid hqq
    clear hqq
    obtain ⟨x0, x1, x2, x3, kr5⟩ := hB5.kr
    have r0 := kr5.cell 0
    have r1 := kr5.cell 1
    have r2 := kr5.cell 2
    have r3' := kr5.cell 3
    have s0 := kr5.frozen 0
    have s1 := kr5.frozen 1
    have s2 := kr5.frozen 2
    have s3 := kr5.frozen 3
    have hB6 := hB5.store
    have z4 := b5.size
    go_wp2_with fail
    refine hK.out _ _ ?_ (fun hHeld => ?_)
    · exact (unhide BX) _ hB5
    clear hK K
    try simp only [Act.put, List.setIfInBounds_toArray, List.set_cons_zero, List.set_cons_succ]
    refine SeqO.take (by rfl) (v := ?hv7) (by rfl) ?hy7 ?hr7
    case hy7 =>
      intro w hSw
      try dsimp only at hSw
      go_simp
      try (with_reducible rfl)
    try simp only [Act.put, List.setIfInBounds_toArray, List.set_cons_zero, List.set_cons_succ]
    refine SeqO.take (by rfl) (v := ?hv8) (by rfl) ?hy8 ?hr8
    case hy8 =>
      intro w hSw
      try dsimp only at hSw
      go_simp
      try (with_reducible rfl)
    try simp only [Act.put, List.setIfInBounds_toArray, List.set_cons_zero, List.set_cons_succ]
    refine SeqO.call (by rfl) (fun K hK => ?_)
    go_simp

    refine hK.out _ _ ?_ (fun hHeld => ?_)
    · exact (unhide BX) _ (hB6 _ _ _ _)
    clear hK K
    try simp only [Act.put, List.setIfInBounds_toArray, List.set_cons_zero, List.set_cons_succ]
    refine SeqO.take (by rfl) (v := ?hv9) (by rfl) ?hy9 ?hr9
    case hy9 =>
      intro w hSw
      try dsimp only at hSw
      go_simp
      try (with_reducible rfl)
    try simp only [Act.put, List.setIfInBounds_toArray, List.set_cons_zero, List.set_cons_succ]
    refine SeqO.done (NoPanic.normal ?_)
    have hlt := hB4.lt
    go_wp2
    refine bodyPost_ret (results_cell_tmp_row rfl _ _ w.heap.size 31 #[.int .i64 rp, .int .i64 rd, .slice a5 rx.length c5, .slice p5 ry.length d5] _ rfl (kr5.b4.store _ _ _ _) Try.underlying31 rfl (by kernel_rfl)) rfl ?_
    rw [HRR.out, ← HQ.out]
    refine ⟨_, _, rfl, ?_, Below.set4 hB5.bel (Nat.le_refl _) _ _ _ _⟩
    exact ((((o5.storeBelow (by show w.heap.size < _; omega) _).storeBelow (by show w.heap.size < _; omega) _).storeBelow (by show w.heap.size < _; omega) _).storeBelow (by show w.heap.size < _; omega) _).mono (by omega)
end Go.Proofs.Ytcblhjhabhjbkaa

/-
  Walks: HammingCode and SimplexCode of the specification. Printed by gen_ham.py. Printed by gen_ham.py.
-/
namespace Go.Proofs.Ytcblhjhabhjbkaa
open Go.RowKit
attribute [local go_sem ↓] Go.wp_at_zero Go.wp_at_succ
set_option maxRecDepth 100000 in
set_option maxHeartbeats 3200000 in
theorem specHC_any (q r : Int) (w : World) : Calls Try.prog 29 #[.int .i64 q, .int .i64 r] w (SpC w w.heap.size (hamRes q r)) := by
  obtain ⟨W0, hHW⟩ : ∃ z, z = w.alloc (.cells #[.int .i64 0, .int .i64 0, .slice none 0 0, .slice none 0 0] 31) := ⟨_, rfl⟩
  have b0 : Below w.heap.size w W0 := by rw [hHW]; exact (Below.refl _ _).alloc (Nat.le_refl _) _
  have kr : Blk W0 w.heap.size 31 #[.int .i64 0, .int .i64 0, .slice none 0 0, .slice none 0 0] := by rw [hHW]; exact Blk.new _ _ _ rfl
  have sk0 : w.heap.size < W0.heap.size := kr.lt
  have HW := Lib.hid hHW
  clear hHW
  generalize hR : hamRes q r = rr
  have hV := l19Ask_any q r W0
  cases hk : (isField q && colsOk q r) with
  | false =>
    have HN := Lib.hid (show rr = (0, 0, [], [], 2) by rw [← hR, hamRes, hk]; rfl)
    rw [hk] at hV
    have HV := hide hV
    clear hV hk hR
    go_enter Try.func29, Try.ntmps29
    go_upto_region 1 with fail
    rw [← HW.out]
    go_wp2_with fail
    refine (unhide HV).mono ?_
    rintro e w1 ⟨rfl, rfl⟩
    have r0 := kr.cell 0
    have r1 := kr.cell 1
    have r2 := kr.cell 2
    have r3 := kr.cell 3
    have s0 := kr.frozen 0
    have s1 := kr.frozen 1
    have s2 := kr.frozen 2
    have s3 := kr.frozen 3
    go_wp2
    refine bodyPost_ret (results_cell_tmp_row rfl _ _ w.heap.size 31 #[.int .i64 0, .int .i64 0, .slice none 0 0, .slice none 0 0] _ rfl (kr.b4.store _ _ _ _) Try.underlying31 rfl (by kernel_rfl)) rfl ?_
    rw [HN.out]
    exact ⟨_, _, rfl, Own.nil _ _, OwnS.nil _ _, Below.set4 b0 (Nat.le_refl _) _ _ _ _⟩
  | true =>
    obtain ⟨hf, hc⟩ : isField q = true ∧ colsOk q r = true := by rw [Bool.and_eq_true] at hk; exact hk
    obtain ⟨hr2, hr4, hC3, hC32, hCM⟩ := hcols_bd hf hc
    obtain ⟨h2, h64, _⟩ := isField_size hf
    have hmany := (colsOk_true hc).2.2
    have hG := fdOf_good hf
    have ok := hG.ok
    obtain ⟨n2, n64⟩ := ok.n_bd
    have hMk := fun W => l03Make_any q W hf
    rw [hk] at hV
    have hRR : rr = mkC (fdOf q) (nul (fdOf q) (cols (hcols q r) r.toNat) (hcols q r).length) := by rw [← hR, hamRes, hk]; rfl
    have hr0 := (colsOk_true hc).1
    obtain ⟨R, rfl⟩ := Int.eq_ofNat_of_zero_le (show 0 ≤ r by omega)
    obtain ⟨Q, rfl⟩ := Int.eq_ofNat_of_zero_le (show 0 ≤ q by omega)
    clear hk hc hR hr0 hf
    rw [Int.toNat_natCast] at hr2 hr4 hCM hRR hmany
    rw [Int.toNat_natCast] at hmany
    have hCC := fun W => l19Columns_any Q R W (by omega) (by omega) hr2 hr4 hmany
    generalize fdOf Q = F at *
    generalize hcols Q R = C at *
    have hl : ∀ xs ∈ C, xs.length = R := fun xs h => (hCM xs h).1
    have hTU := fun a d W (h : RdS W a C) => l17Turn_any a d C R W h hl (by omega) (by omega) (by omega)
    have hMM := cols_Mat ok hCM
    have hMl := cols_len C R
    obtain ⟨M, hM⟩ : ∃ M, M = cols C R := ⟨_, rfl⟩
    rw [← hM] at hTU hMM hMl hRR
    have hNS := fun g a d W hF (hy : RdS W a M) => l17Null_any g F a d M C.length W hF hG hy (by omega) hMM (by omega) (by omega)
    obtain ⟨N, hN⟩ : ∃ N, N = nul F M C.length := ⟨_, rfl⟩
    rw [← hN] at hNS hRR
    have HMK0 := hide hMk
    have HCC := hide hCC
    have HTU := hide hTU
    have HNS := hide hNS
    have HRR := Lib.hid hRR
    have HV := hide hV
    clear hMk hCC hTU hNS hRR hV hMM hM hN hl hCM hmany hMl
    go_enter Try.func29, Try.ntmps29
    go_upto_region 1 with fail
    rw [← HW.out]
    go_wp2_with fail
    refine (unhide HV).mono ?_
    rintro e w1 ⟨rfl, rfl⟩
    go_wp2_with fail
    refine (unhide HMK0 _).mono ?_
    rintro e w1 ⟨v1, rfl, o1, b1⟩
    obtain ⟨a1, c1, rfl, r1, _⟩ := o1.form
    obtain ⟨W1, hHF⟩ : ∃ z, z = w1.alloc (.cells #[.int .i64 F.p, .int .i64 F.k, .slice a1 F.poly.length c1] 29) := ⟨_, rfl⟩
    have bF : Below w1.heap.size w1 W1 := by rw [hHF]; exact (Below.refl _ _).alloc (Nat.le_refl _) _
    have kF : Blk W1 w1.heap.size 29 #[.int .i64 F.p, .int .i64 F.k, .slice a1 F.poly.length c1] := by rw [hHF]; exact Blk.new _ _ _ rfl
    have HF := Lib.hid hHF
    clear hHF
    have c1x := Below.chain b1 bF
    have z1 := b1.size
    have zF := kF.lt
    have z1x := c1x.size
    have hPF : PF W1 w1.heap.size F := ⟨kF.cell 0, kF.cell 1, a1, c1, kF.cell 2, r1.below bF⟩
    go_upto_region 4 with fail
    rw [← HF.out]
    go_wp2_with fail
    refine (unhide HCC _).mono ?_
    rintro e w2 ⟨v2, rfl, o2, b2⟩
    obtain ⟨a2, c2, rfl, r2⟩ := o2.form
    go_wp2_with fail
    refine (unhide HTU _ _ _ r2).mono ?_
    rintro e w3 ⟨v3, rfl, o3, b3⟩
    obtain ⟨a3, c3, rfl, r3⟩ := o3.form
    have d3 := Below.chain b2 b3
    have z3 := d3.size
    go_wp2_with fail
    refine (unhide HNS _ _ _ _ (hPF.below d3) r3).mono ?_
    rintro e w4 ⟨v4, rfl, o4, b4⟩
    obtain ⟨a4, c4, rfl, r4⟩ := o4.form
    have d4 := Below.chain d3 b4
    have z4 := b4.size
    have hMk := l18Make_any w3.heap.size w1.heap.size F a4 c4 N w4 (hPF.below d4) ok o4 z4
    have HMK := hide hMk
    clear hMk
    go_wp2_with fail
    refine (unhide HMK).mono ?_
    rintro e w5 ⟨v5, u5, rfl, o5, q5, b5⟩
    have d5 := Below.chain d4 b5
    have kr5 := kr.below (Below.chain c1x d5) kr.lt
    obtain ⟨qq, hqq⟩ : ∃ qq, qq = mkC F N := ⟨_, rfl⟩
    rw [← hqq] at o5 q5 ⊢
    obtain ⟨rp, rd, rx, ry, rz⟩ := qq
    simp only [] at o5 q5 ⊢
    obtain ⟨a5, c5, rfl, _, _⟩ := o5.form
    obtain ⟨p5, d5', rfl, _⟩ := q5.form
    have HQ := Lib.hid hqq
    clear hqq
    have r0 := kr5.cell 0
    have r1 := kr5.cell 1
    have r2 := kr5.cell 2
    have r3 := kr5.cell 3
    have s0 := kr5.frozen 0
    have s1 := kr5.frozen 1
    have s2 := kr5.frozen 2
    have s3 := kr5.frozen 3
    have p3 : w.heap.size < w3.heap.size := by omega
    go_wp2
    refine bodyPost_ret (results_cell_tmp_row rfl _ _ w.heap.size 31 #[.int .i64 rp, .int .i64 rd, .slice a5 rx.length c5, .slice p5 ry.length d5'] _ rfl (kr5.b4.store _ _ _ _) Try.underlying31 rfl (by kernel_rfl)) rfl ?_
    rw [HRR.out, ← HQ.out]
    refine ⟨_, _, rfl, ?_, ?_, Below.set4 (b0.trans ((Below.chain c1x d5).mono (Nat.le_of_lt sk0))) (Nat.le_refl _) _ _ _ _⟩
    · exact ((((o5.storeBelow p3 _).storeBelow p3 _).storeBelow p3 _).storeBelow p3 _).mono (by omega)
    · exact ((((q5.storeBelow p3 _).storeBelow p3 _).storeBelow p3 _).storeBelow p3 _).mono (by omega)
set_option maxRecDepth 100000 in
set_option maxHeartbeats 3200000 in
theorem specSC_any (q r : Int) (w : World) : Calls Try.prog 31 #[.int .i64 q, .int .i64 r] w (SpC w w.heap.size (simRes q r)) := by
  obtain ⟨W0, hHW⟩ : ∃ z, z = w.alloc (.cells #[.int .i64 0, .int .i64 0, .slice none 0 0, .slice none 0 0] 31) := ⟨_, rfl⟩
  have b0 : Below w.heap.size w W0 := by rw [hHW]; exact (Below.refl _ _).alloc (Nat.le_refl _) _
  have kr : Blk W0 w.heap.size 31 #[.int .i64 0, .int .i64 0, .slice none 0 0, .slice none 0 0] := by rw [hHW]; exact Blk.new _ _ _ rfl
  have sk0 : w.heap.size < W0.heap.size := kr.lt
  have HW := Lib.hid hHW
  clear hHW
  generalize hR : simRes q r = rr
  have hV := l19Ask_any q r W0
  cases hk : (isField q && colsOk q r) with
  | false =>
    have HN := Lib.hid (show rr = (0, 0, [], [], 2) by rw [← hR, simRes, hk]; rfl)
    rw [hk] at hV
    have HV := hide hV
    clear hV hk hR
    go_enter Try.func31, Try.ntmps31
    go_upto_region 1 with fail
    rw [← HW.out]
    go_wp2_with fail
    refine (unhide HV).mono ?_
    rintro e w1 ⟨rfl, rfl⟩
    have r0 := kr.cell 0
    have r1 := kr.cell 1
    have r2 := kr.cell 2
    have r3 := kr.cell 3
    have s0 := kr.frozen 0
    have s1 := kr.frozen 1
    have s2 := kr.frozen 2
    have s3 := kr.frozen 3
    go_wp2
    refine bodyPost_ret (results_cell_tmp_row rfl _ _ w.heap.size 31 #[.int .i64 0, .int .i64 0, .slice none 0 0, .slice none 0 0] _ rfl (kr.b4.store _ _ _ _) Try.underlying31 rfl (by kernel_rfl)) rfl ?_
    rw [HN.out]
    exact ⟨_, _, rfl, Own.nil _ _, OwnS.nil _ _, Below.set4 b0 (Nat.le_refl _) _ _ _ _⟩
  | true =>
    obtain ⟨hf, hc⟩ : isField q = true ∧ colsOk q r = true := by rw [Bool.and_eq_true] at hk; exact hk
    obtain ⟨hr2, hr4, hC3, hC32, hCM⟩ := hcols_bd hf hc
    obtain ⟨h2, h64, _⟩ := isField_size hf
    have hmany := (colsOk_true hc).2.2
    have hG := fdOf_good hf
    have ok := hG.ok
    obtain ⟨n2, n64⟩ := ok.n_bd
    have hMk := fun W => l03Make_any q W hf
    rw [hk] at hV
    have hRR : rr = mkC (fdOf q) (form (fdOf q) (cols (hcols q r) r.toNat) (hcols q r).length) := by rw [← hR, simRes, hk]; rfl
    have hr0 := (colsOk_true hc).1
    obtain ⟨R, rfl⟩ := Int.eq_ofNat_of_zero_le (show 0 ≤ r by omega)
    obtain ⟨Q, rfl⟩ := Int.eq_ofNat_of_zero_le (show 0 ≤ q by omega)
    clear hk hc hR hr0 hf
    rw [Int.toNat_natCast] at hr2 hr4 hCM hRR hmany
    rw [Int.toNat_natCast] at hmany
    have hCC := fun W => l19Columns_any Q R W (by omega) (by omega) hr2 hr4 hmany
    generalize fdOf Q = F at *
    generalize hcols Q R = C at *
    have hl : ∀ xs ∈ C, xs.length = R := fun xs h => (hCM xs h).1
    have hTU := fun a d W (h : RdS W a C) => l17Turn_any a d C R W h hl (by omega) (by omega) (by omega)
    have hMM := cols_Mat ok hCM
    have hMl := cols_len C R
    obtain ⟨M, hM⟩ : ∃ M, M = cols C R := ⟨_, rfl⟩
    rw [← hM] at hTU hMM hMl hRR
    have hNS := fun g a d W hF (hy : RdS W a M) => l17Form_any g F a d M C.length W hF hG hy (by omega) hMM
    obtain ⟨N, hN⟩ : ∃ N, N = form F M C.length := ⟨_, rfl⟩
    rw [← hN] at hNS hRR
    have HMK0 := hide hMk
    have HCC := hide hCC
    have HTU := hide hTU
    have HNS := hide hNS
    have HRR := Lib.hid hRR
    have HV := hide hV
    clear hMk hCC hTU hNS hRR hV hMM hM hN hl hCM hmany hMl
    go_enter Try.func31, Try.ntmps31
    go_upto_region 1 with fail
    rw [← HW.out]
    go_wp2_with fail
    refine (unhide HV).mono ?_
    rintro e w1 ⟨rfl, rfl⟩
    go_wp2_with fail
    refine (unhide HMK0 _).mono ?_
    rintro e w1 ⟨v1, rfl, o1, b1⟩
    obtain ⟨a1, c1, rfl, r1, _⟩ := o1.form
    obtain ⟨W1, hHF⟩ : ∃ z, z = w1.alloc (.cells #[.int .i64 F.p, .int .i64 F.k, .slice a1 F.poly.length c1] 29) := ⟨_, rfl⟩
    have bF : Below w1.heap.size w1 W1 := by rw [hHF]; exact (Below.refl _ _).alloc (Nat.le_refl _) _
    have kF : Blk W1 w1.heap.size 29 #[.int .i64 F.p, .int .i64 F.k, .slice a1 F.poly.length c1] := by rw [hHF]; exact Blk.new _ _ _ rfl
    have HF := Lib.hid hHF
    clear hHF
    have c1x := Below.chain b1 bF
    have z1 := b1.size
    have zF := kF.lt
    have z1x := c1x.size
    have hPF : PF W1 w1.heap.size F := ⟨kF.cell 0, kF.cell 1, a1, c1, kF.cell 2, r1.below bF⟩
    go_upto_region 4 with fail
    rw [← HF.out]
    go_wp2_with fail
    refine (unhide HCC _).mono ?_
    rintro e w2 ⟨v2, rfl, o2, b2⟩
    obtain ⟨a2, c2, rfl, r2⟩ := o2.form
    go_wp2_with fail
    refine (unhide HTU _ _ _ r2).mono ?_
    rintro e w3 ⟨v3, rfl, o3, b3⟩
    obtain ⟨a3, c3, rfl, r3⟩ := o3.form
    have d3 := Below.chain b2 b3
    have z3 := d3.size
    go_wp2_with fail
    refine (unhide HNS _ _ _ _ (hPF.below d3) r3).mono ?_
    rintro e w4 ⟨v4, rfl, o4, b4⟩
    obtain ⟨a4, c4, rfl, r4⟩ := o4.form
    have d4 := Below.chain d3 b4
    have z4 := b4.size
    have hMk := l18Make_any w3.heap.size w1.heap.size F a4 c4 N w4 (hPF.below d4) ok o4 z4
    have HMK := hide hMk
    clear hMk
    go_wp2_with fail
    refine (unhide HMK).mono ?_
    rintro e w5 ⟨v5, u5, rfl, o5, q5, b5⟩
    have d5 := Below.chain d4 b5
    have kr5 := kr.below (Below.chain c1x d5) kr.lt
    obtain ⟨qq, hqq⟩ : ∃ qq, qq = mkC F N := ⟨_, rfl⟩
    rw [← hqq] at o5 q5 ⊢
    obtain ⟨rp, rd, rx, ry, rz⟩ := qq
    simp only [] at o5 q5 ⊢
    obtain ⟨a5, c5, rfl, _, _⟩ := o5.form
    obtain ⟨p5, d5', rfl, _⟩ := q5.form
    have HQ := Lib.hid hqq
    clear hqq
    have r0 := kr5.cell 0
    have r1 := kr5.cell 1
    have r2 := kr5.cell 2
    have r3 := kr5.cell 3
    have s0 := kr5.frozen 0
    have s1 := kr5.frozen 1
    have s2 := kr5.frozen 2
    have s3 := kr5.frozen 3
    have p3 : w.heap.size < w3.heap.size := by omega
    go_wp2
    refine bodyPost_ret (results_cell_tmp_row rfl _ _ w.heap.size 31 #[.int .i64 rp, .int .i64 rd, .slice a5 rx.length c5, .slice p5 ry.length d5'] _ rfl (kr5.b4.store _ _ _ _) Try.underlying31 rfl (by kernel_rfl)) rfl ?_
    rw [HRR.out, ← HQ.out]
    refine ⟨_, _, rfl, ?_, ?_, Below.set4 (b0.trans ((Below.chain c1x d5).mono (Nat.le_of_lt sk0))) (Nat.le_refl _) _ _ _ _⟩
    · exact ((((o5.storeBelow p3 _).storeBelow p3 _).storeBelow p3 _).storeBelow p3 _).mono (by omega)
    · exact ((((q5.storeBelow p3 _).storeBelow p3 _).storeBelow p3 _).storeBelow p3 _).mono (by omega)
end Go.Proofs.Ytcblhjhabhjbkaa

