/-
  Walks: HammingCode and SimplexCode, on both sides. Printed by gen_ham.py.
-/
import Derived.BigQuiet
import Derived.BigRegion
import Derived.ChangeOld
import Derived.Deep.DeepCutAuto
import Derived.Deep.DeepMust
import Derived.Deep.DrawnRows
import Derived.Deep.Draws
import Derived.Deep.OwnRows
import Derived.Deep.QuietTactic
import Derived.Deep.RegionHeld3
import Derived.Deep.Slices
import Derived.IntWalk
import Derived.Laws.Rows
import Derived.Lib.Hide
import Derived.Maps.AppendAt
import Derived.OpenShut
import Derived.OwnWalk
import Derived.ProofKit
import Derived.ShutString
import Derived.StillTailTactics
import Derived.Test.YtgmgpcaahanmiaaProg
import Derived.Test.YtgmgpcaahanmiaaRows
import Derived.WalkKit
import Derived.WalkLawsBesides
import Derived.WalkSpells
import Derived.Test.YtgmgpcaahanmiaaZ5
import Derived.Test.YtgmgpcaahanmiaaZ8
import Derived.Test.YtgmgpcaahanmiaaZ14
import Derived.Test.YtgmgpcaahanmiaaZ15
import Derived.Test.YtgmgpcaahanmiaaZ35
import Derived.Test.YtgmgpcaahanmiaaZ38
import Derived.Test.YtgmgpcaahanmiaaZ47
import Derived.Test.YtgmgpcaahanmiaaZ59
import Derived.Test.YtgmgpcaahanmiaaZ60
set_option linter.unusedVariables false
set_option linter.unusedSimpArgs false
namespace Go.Proofs.Ytgmgpcaahanmiaa
open Go.RowKit
attribute [local go_sem ↓] Go.wp_at_zero Go.wp_at_succ
theorem results_cell_tmp2_row {P : Program} {fn : Func} {p u v : Tmp} {ty : TypeId} (h : fn.results = #[.cell p ty, .tmp u, .tmp v]) (tmps : Array Value) (w : World) (g : Nat) (t : TypeId) (cs : Array Value) (d : TypeDesc)
    (hp : tmps.getD p undef = .pointer (some ⟨g, 0, none⟩)) (hg : Blk w g t cs)
    (hu : P.underlying ty = some d) (hd : (match d with | .struct _ | .array _ _ => true | _ => false) = true) (hi : (P.info? ty).map (·.size) = some cs.size) :
    (results fn tmps).run P w = .ok (.tuple #[.agg cs, tmps.getD u undef, tmps.getD v undef]) w := by
  have e : (results fn tmps).run P w = ((asAddr (tmps.getD p undef)).run P w).andThen fun a w₁ => ((loadVar ty a).run P w₁).andThen fun x w₂ => .ok (.tuple #[x, tmps.getD u undef, tmps.getD v undef]) w₂ := by
    simp only [results, h]
    simp [Sem.run_bind, Result.andThen]
  rw [e, hp]
  simp [asAddr, run_loadVar_row w g t ty cs (0, 0) d hg hu hd hi, Result.andThen]
theorem hcols_bd {q r : Int} (hf : isField q = true) (hc : colsOk q r = true) : 2 ≤ r.toNat ∧ r.toNat ≤ 4 ∧ 3 ≤ (hcols q r).length ∧ (hcols q r).length ≤ 32 ∧ (fdOf q).Mat r.toNat (hcols q r) := by
  obtain ⟨h2, h64, _⟩ := isField_size hf
  obtain ⟨hr2, hr4, hm⟩ := colsOk_true hc
  obtain ⟨ok, hq, hs⟩ := fdOf_ok hf
  have hl := hcols_len (q := q) (r := r) h2
  have h3 := many_two (q := q.toNat) (by omega) (r := r.toNat) (by omega)
  have he := hcols_el (q := q) (r := r) h2 (by omega)
  refine ⟨by omega, by omega, by omega, by omega, fun xs hx => ⟨(he xs hx).1, fun x h => ?_⟩⟩
  have := (he xs hx).2 x h
  have := ok.n_eq
  omega
def hamRes (q r : Int) : Int × Int × List Int × List (List Int) × Int := if (isField q && colsOk q r) = true then mkC (fdOf q) (nul (fdOf q) (cols (hcols q r) r.toNat) (hcols q r).length) else (0, 0, [], [], 2)
def simRes (q r : Int) : Int × Int × List Int × List (List Int) × Int := if (isField q && colsOk q r) = true then mkC (fdOf q) (form (fdOf q) (cols (hcols q r) r.toNat) (hcols q r).length) else (0, 0, [], [], 2)
set_option maxRecDepth 100000 in
set_option maxHeartbeats 1600000 in
theorem checked_yes (q r : Int) (w : World) (hf : isField q = true) (hc : colsOk q r = true) :
    Calls Try.prog 87 #[.int .i64 q, .int .i64 r] w fun e w' => ∃ v u, e = .returned (.tuple #[.agg #[.int .i64 (fdOf q).p, .int .i64 (fdOf q).k, v], u, .int .i64 0]) ∧ Own w' w.heap.size v (fdOf q).poly ∧ OwnS w' w.heap.size u (hcols q r) ∧ Below w.heap.size w w' := by
  obtain ⟨W0, hHW⟩ : ∃ z, z = w.alloc (.cells #[.int .i64 0, .int .i64 0, .slice none 0 0] 34) := ⟨_, rfl⟩
  have b0 : Below w.heap.size w W0 := by rw [hHW]; exact (Below.refl _ _).alloc (Nat.le_refl _) _
  have kr : Blk W0 w.heap.size 34 #[.int .i64 0, .int .i64 0, .slice none 0 0] := by rw [hHW]; exact Blk.new _ _ _ rfl
  have sk0 : w.heap.size < W0.heap.size := kr.lt
  have HW := Lib.hid hHW
  clear hHW
  obtain ⟨h2, h64, _⟩ := isField_size hf
  have hM := implMake_any q W0 hf
  have hCC := fun W => checkColumns_any q.toNat r W (by omega) (by omega)
  rw [Int.toNat_of_nonneg (show 0 ≤ q by omega), hc] at hCC
  have hCC : ∀ W, Calls Try.prog 170 #[.int .i64 q, .int .i64 r] W fun e w' => ∃ v, e = .returned (.tuple #[v, .bool true]) ∧ OwnS w' W.heap.size v (hcols q r) ∧ Below W.heap.size W w' := hCC
  generalize fdOf q = F at hM ⊢
  obtain ⟨C, hC⟩ : ∃ C, C = hcols q r := ⟨_, rfl⟩
  rw [← hC] at hCC ⊢
  have HM := hide hM
  have HCC := hide hCC
  clear hM hCC hC hf hc
  go_enter Try.func87, Try.ntmps87
  go_upto_region 1 with fail
  rw [← HW.out]
  go_wp2_with fail
  refine (unhide HM).mono ?_
  rintro e w1 ⟨v1, rfl, o1, b1⟩
  obtain ⟨a1, c1, rfl, r1, _⟩ := o1.form
  obtain ⟨W1, hHF⟩ : ∃ z, z = w1.alloc (.cells #[.int .i64 F.p, .int .i64 F.k, .slice a1 F.poly.length c1] 34) := ⟨_, rfl⟩
  have bF : Below w1.heap.size w1 W1 := by rw [hHF]; exact (Below.refl _ _).alloc (Nat.le_refl _) _
  have kF : Blk W1 w1.heap.size 34 #[.int .i64 F.p, .int .i64 F.k, .slice a1 F.poly.length c1] := by rw [hHF]; exact Blk.new _ _ _ rfl
  have HF := Lib.hid hHF
  clear hHF
  have c1x := Below.chain b1 bF
  have z1 := c1x.size
  have o1x := o1.below bF (Nat.le_refl _)
  have kF1 := kF
  go_upto_region 2 with fail
  rw [← HF.out]
  go_wp2_with fail
  refine (unhide HCC _).mono ?_
  rintro e w2 ⟨v2, rfl, o2, b2⟩
  have kF2 := kF.below b2 kF.lt
  have c2 := Below.chain c1x b2
  have kr2 := kr.below c2 kr.lt
  have o3 := o1x.below b2 (Nat.le_refl _)
  obtain ⟨a2, d2, rfl, _⟩ := o2.form
  have f0 := kF2.cell 0
  have f1 := kF2.cell 1
  have f2 := kF2.cell 2
  have r0 := kr2.cell 0
  have r1 := kr2.cell 1
  have r2 := kr2.cell 2
  have s0 := kr2.frozen 0
  have s1 := kr2.frozen 1
  have s2 := kr2.frozen 2
  go_wp2
  refine bodyPost_ret (results_cell_tmp2_row rfl _ _ w.heap.size 34 #[.int .i64 F.p, .int .i64 F.k, .slice a1 F.poly.length c1] _ rfl (kr2.b3.store _ _ _) Try.underlying34 rfl (by kernel_rfl)) rfl ?_
  refine ⟨_, _, rfl, ?_, ?_, Below.set3 (b0.trans (c2.mono (Nat.le_of_lt sk0))) (Nat.le_refl _) _ _ _⟩
  · exact (((o3.storeBelow (by show w.heap.size < _; omega) _).storeBelow (by show w.heap.size < _; omega) _).storeBelow (by show w.heap.size < _; omega) _).mono (by omega)
  · exact (((o2.storeBelow (by show w.heap.size < _; omega) _).storeBelow (by show w.heap.size < _; omega) _).storeBelow (by show w.heap.size < _; omega) _).mono (by omega)
set_option maxRecDepth 100000 in
set_option maxHeartbeats 1600000 in
theorem checked_no (q r : Int) (w : World) (hn : (isField q && colsOk q r) = false) :
    Calls Try.prog 87 #[.int .i64 q, .int .i64 r] w fun e w' => e = .returned (.tuple #[.agg #[.int .i64 0, .int .i64 0, .slice none 0 0], .slice none 0 0, .int .i64 2]) ∧ Below w.heap.size w w' := by
  obtain ⟨W0, hHW⟩ : ∃ z, z = w.alloc (.cells #[.int .i64 0, .int .i64 0, .slice none 0 0] 34) := ⟨_, rfl⟩
  have b0 : Below w.heap.size w W0 := by rw [hHW]; exact (Below.refl _ _).alloc (Nat.le_refl _) _
  have kr : Blk W0 w.heap.size 34 #[.int .i64 0, .int .i64 0, .slice none 0 0] := by rw [hHW]; exact Blk.new _ _ _ rfl
  have sk0 : w.heap.size < W0.heap.size := kr.lt
  have HW := Lib.hid hHW
  clear hHW
  by_cases hf : isField q = true
  ·
    obtain ⟨h2, h64, _⟩ := isField_size hf
    have hc : colsOk q r = false := by rw [hf, Bool.true_and] at hn; exact hn
    have hM := implMake_any q W0 hf
    have hCC := fun W => checkColumns_any q.toNat r W (by omega) (by omega)
    rw [Int.toNat_of_nonneg (show 0 ≤ q by omega), hc] at hCC
    have hCC : ∀ W, Calls Try.prog 170 #[.int .i64 q, .int .i64 r] W fun e w' => ∃ v, e = .returned (.tuple #[v, .bool false]) ∧ OwnS w' W.heap.size v [] ∧ Below W.heap.size W w' := hCC
    generalize fdOf q = F at hM
    have HM := hide hM
    have HCC := hide hCC
    clear hM hCC hf hc hn
    go_enter Try.func87, Try.ntmps87
    go_upto_region 1 with fail
    rw [← HW.out]
    go_wp2_with fail
    refine (unhide HM).mono ?_
    rintro e w1 ⟨v1, rfl, o1, b1⟩
    obtain ⟨a1, c1, rfl, r1, _⟩ := o1.form
    obtain ⟨W1, hHF⟩ : ∃ z, z = w1.alloc (.cells #[.int .i64 F.p, .int .i64 F.k, .slice a1 F.poly.length c1] 34) := ⟨_, rfl⟩
    have bF : Below w1.heap.size w1 W1 := by rw [hHF]; exact (Below.refl _ _).alloc (Nat.le_refl _) _
    have kF : Blk W1 w1.heap.size 34 #[.int .i64 F.p, .int .i64 F.k, .slice a1 F.poly.length c1] := by rw [hHF]; exact Blk.new _ _ _ rfl
    have HF := Lib.hid hHF
    clear hHF
    have c1x := Below.chain b1 bF
    go_upto_region 2 with fail
    rw [← HF.out]
    go_wp2_with fail
    refine (unhide HCC _).mono ?_
    rintro e w2 ⟨v2, rfl, o2, b2⟩
    have c2 := Below.chain c1x b2
    have kr2 := kr.below c2 kr.lt
    obtain ⟨a2, d2, rfl, _⟩ := o2.form
    have r0 := kr2.cell 0
    have r1 := kr2.cell 1
    have r2 := kr2.cell 2
    have s0 := kr2.frozen 0
    have s1 := kr2.frozen 1
    have s2 := kr2.frozen 2
    go_wp2
    refine bodyPost_ret (results_cell_tmp2_row rfl _ _ w.heap.size 34 #[.int .i64 0, .int .i64 0, .slice none 0 0] _ rfl (kr2.b3.store _ _ _) Try.underlying34 rfl (by kernel_rfl)) rfl ?_
    exact ⟨rfl, Below.set3 (b0.trans (c2.mono (Nat.le_of_lt sk0))) (Nat.le_refl _) _ _ _⟩
  ·
    have hM := MakeField_no q W0 (by simpa using hf)
    have HM := hide hM
    clear hM hf hn
    go_enter Try.func87, Try.ntmps87
    go_upto_region 1 with fail
    rw [← HW.out]
    go_wp2_with fail
    refine (unhide HM).mono ?_
    rintro e w1 ⟨v1, rfl, o1, b1⟩
    obtain ⟨a1, c1, rfl, r1, _⟩ := o1.form
    obtain ⟨W1, hHF⟩ : ∃ z, z = w1.alloc (.cells #[.int .i64 0, .int .i64 0, .slice a1 0 c1] 34) := ⟨_, rfl⟩
    have bF : Below w1.heap.size w1 W1 := by rw [hHF]; exact (Below.refl _ _).alloc (Nat.le_refl _) _
    have kF : Blk W1 w1.heap.size 34 #[.int .i64 0, .int .i64 0, .slice a1 0 c1] := by rw [hHF]; exact Blk.new _ _ _ rfl
    have HF := Lib.hid hHF
    clear hHF
    have c1x := Below.chain b1 bF
    have kr2 := kr.below c1x kr.lt
    go_upto_region 2 with fail
    rw [← HF.out]
    have r0 := kr2.cell 0
    have r1 := kr2.cell 1
    have r2 := kr2.cell 2
    have s0 := kr2.frozen 0
    have s1 := kr2.frozen 1
    have s2 := kr2.frozen 2
    go_wp2
    refine bodyPost_ret (results_cell_tmp2_row rfl _ _ w.heap.size 34 #[.int .i64 0, .int .i64 0, .slice none 0 0] _ rfl (kr2.b3.store _ _ _) Try.underlying34 rfl (by kernel_rfl)) rfl ?_
    exact ⟨rfl, Below.set3 (b0.trans (c1x.mono (Nat.le_of_lt sk0))) (Nat.le_refl _) _ _ _⟩
/-- What is held while the code is made: the field's box, the field, the columns, the result's box. -/
structure HamH (w : World) (B g : Nat) (F : FD) (a : Option Addr) (c : Nat) (b : Option Addr) (d : Nat) (C : List (List Int)) (W : World) : Prop where
  bel : Below w.heap.size w W
  lt : w.heap.size < B ∧ B ≤ W.heap.size ∧ g < W.heap.size ∧ w.heap.size ≠ g
  kF : Blk W g 34 #[.int .i64 F.p, .int .i64 F.k, .slice a F.poly.length c]
  po : Own W B (.slice a F.poly.length c) F.poly
  co : OwnS W B (.slice b C.length d) C
  kr : B4 W w.heap.size 37
theorem HamH.next {w : World} {B g : Nat} {F : FD} {a : Option Addr} {c : Nat} {b : Option Addr} {d : Nat} {C : List (List Int)} {W W' : World} (h : HamH w B g F a c b d C W) (hb : Below W.heap.size W W') : HamH w B g F a c b d C W' := by
  have hz := hb.size
  obtain ⟨x, y, z, u, hk⟩ := h.kr
  have hl := h.lt
  exact ⟨h.bel.trans (hb.mono (by omega)), ⟨hl.1, by omega, by omega, hl.2.2.2⟩, h.kF.below hb h.kF.lt, h.po.below hb (Nat.le_refl _), h.co.below hb (Nat.le_refl _), ⟨_, _, _, _, hk.below hb hk.lt⟩⟩
theorem HamH.store {w : World} {B g : Nat} {F : FD} {a : Option Addr} {c : Nat} {b : Option Addr} {d : Nat} {C : List (List Int)} {W : World} (h : HamH w B g F a c b d C W) (x y z u : Value) : HamH w B g F a c b d C ((((W.setCell ⟨w.heap.size, 0, none⟩ x).setCell ⟨w.heap.size, 1, none⟩ y).setCell ⟨w.heap.size, 2, none⟩ z).setCell ⟨w.heap.size, 3, none⟩ u) := by
  have hl := h.lt
  have hne : g ≠ w.heap.size := Ne.symm hl.2.2.2
  refine ⟨Below.set4 h.bel (Nat.le_refl _) _ _ _ _, ⟨hl.1, ?_, ?_, hl.2.2.2⟩, ?_, ?_, ?_, ?_⟩
  · simpa using hl.2.1
  · simpa using hl.2.2.1
  · exact (((h.kF.far (p := ⟨w.heap.size, 0, none⟩) hne _).far (p := ⟨w.heap.size, 1, none⟩) hne _).far (p := ⟨w.heap.size, 2, none⟩) hne _).far (p := ⟨w.heap.size, 3, none⟩) hne _
  · exact (((h.po.storeBelow (by show w.heap.size < _; omega) _).storeBelow (by show w.heap.size < _; omega) _).storeBelow (by show w.heap.size < _; omega) _).storeBelow (by show w.heap.size < _; omega) _
  · exact (((h.co.storeBelow (by show w.heap.size < _; omega) _).storeBelow (by show w.heap.size < _; omega) _).storeBelow (by show w.heap.size < _; omega) _).storeBelow (by show w.heap.size < _; omega) _
  · exact ⟨_, _, _, _, h.kr.store x y z u⟩
end Go.Proofs.Ytgmgpcaahanmiaa

