/-
  Texts joined.
-/
import Derived.Lib.AppendZeros
import Derived.Test.YtkiljcbejmiioaaGreatLK3
import Derived.Test.YtkiljcbejmiioaaGreatLK5
import Derived.Test.YtkiljcbejmiioaaGreatLK6
import Derived.Test.YtkiljcbejmiioaaGreatLK7
import Derived.Test.YtkiljcbejmiioaaGreatLK15
import Derived.Test.YtkiljcbejmiioaaGreatLK16
import Derived.Test.YtkiljcbejmiioaaGreatLK22
set_option linter.unusedVariables false
set_option linter.unusedSimpArgs false
set_option maxRecDepth 100000
set_option maxHeartbeats 40000000
namespace Go.Proofs.YtkiljcbejmiioaaGreat
open Go.RowKit
attribute [local go_sem ↓] Go.wp_at_zero Go.wp_at_succ
def zerosTo (n B i : Nat) : List (List Int) := (List.range n).map fun x => if x < i then zeros B else []
theorem zerosTo_len (n B i : Nat) : (zerosTo n B i).length = n := by simp [zerosTo]
theorem zerosTo_zero (n B : Nat) : zerosTo n B 0 = List.replicate n [] := by
 refine List.ext_getElem (by simp [zerosTo]) fun i h1 h2 => ?_
 simp [zerosTo]
theorem zerosTo_set (n B i : Nat) : (zerosTo n B i).set i (zeros B) = zerosTo n B (i + 1) := by
 refine List.ext_getElem (by simp [zerosTo]) fun x h1 h2 => ?_
 rw [List.getElem_set]
 simp only [zerosTo, List.getElem_map, List.getElem_range]
 by_cases h : i = x
 · subst h
   simp
 · rw [if_neg h]
   by_cases h3 : x < i
   · rw [if_pos h3, if_pos (by omega)]
   · rw [if_neg h3, if_neg (by omega)]
theorem zerosTo_all (n : Nat) (xss : List (List Int)) : zerosTo n xss.length n = incTo n xss 0 0 := by
 rw [incTo_zero]
 refine List.ext_getElem (by simp [zerosTo]) fun x h1 h2 => ?_
 have : x < n := by simpa using h2
 simp [zerosTo, this, zeros]
theorem incidences_any (n : Nat) (ra : Option Addr) (rc : Nat) (xss : List (List Int)) (w : World) (hx : RdS w ra xss) (hn : n ≤ 32) (hm : xss.length ≤ 128) (hB : ∀ k, k < xss.length → okB n (nthL xss k) = true) :
    Calls Tryz.prog 75 #[.agg #[.int .i64 (n : Int), .slice ra xss.length rc]] w fun e w' => ∃ v, e = .returned v ∧ OwnS w' w.heap.size v (incTo n xss xss.length 0) ∧ Below w.heap.size w w' := by
 obtain ⟨w0, hw0⟩ : ∃ w0, w0 = w.alloc (.cells #[.int .i64 (n : Int), .slice ra xss.length rc] 26) := ⟨_, rfl⟩
 have hb0 : Below w.heap.size w w0 := by rw [hw0]; exact (Below.refl _ _).alloc (Nat.le_refl _) _
 have k0 : Blk w0 w.heap.size 26 #[.int .i64 (n : Int), .slice ra xss.length rc] := by rw [hw0]; exact Blk.new _ _ _ rfl
 have s0 : w.heap.size < w0.heap.size := k0.lt
 have HCE := hide (show ∀ W, Below w0.heap.size w0 W → W.cell? ⟨w.heap.size, 1, none⟩ = some (.slice ra xss.length rc) from fun W h => (k0.below h k0.lt).cell 1)
 have f0 := k0.cell 0
 rw [hw0] at f0
 have HW := Lib.hid hw0
 have hx0 := hx.below hb0
 have hmk := fun W => run_make_row' (P := Tryz.prog) 24 28 (.slice none 0 0) 24 Tryz.underlying24 Tryz.info_row rfl .i64 .i64 n (by omega) (by omega) W
 obtain ⟨w1, hw1⟩ : ∃ z, z = w0.alloc (.cells (madeCells #[.slice none 0 0] n) 28) := ⟨_, rfl⟩
 have b1 : Below w0.heap.size w0 w1 := by rw [hw1]; exact (Below.refl _ _).alloc (Nat.le_refl _) _
 have O1 := hide (show OwnS w1 w0.heap.size (.slice (some ⟨w0.heap.size, 0, none⟩) n n) (zerosTo n xss.length 0) by rw [hw1, zerosTo_zero]; exact OwnS.nils w0 (Nat.le_refl _) (by omega))
 have s1 : w0.heap.size + 1 ≤ w1.heap.size := by rw [hw1]; simp
 rw [hw0] at hw1
 have hlt0 : w0.heap.size = w.heap.size + 1 := by rw [hw0]; simp
 have HL0 := Lib.hid hlt0
 have HX := hide hx0
 have HB := hide hB
 rw [← HW.out] at hw1
 have HW1 := Lib.hid hw1
 clear hx hB hw0 hw1 hlt0 hx0
 go_enter Tryz.func75, Tryz.ntmps75
 go_upto_region 1 with fail
 rw [← HW.out]
 rw [← HW.out] at f0
 go_upto_region 2 with fail
 rw [← HW1.out]
 go_wp2_with fail
 go_loopw [14] (fun iv wr => ∃ i : Nat, iv = .int .i64 i ∧ i ≤ n ∧ Hid (OwnS wr w0.heap.size (.slice (some ⟨w0.heap.size, 0, none⟩) n n) (zerosTo n xss.length i)) ∧ Below w0.heap.size w0 wr) (fun iv _ => n - (intOf iv).toNat)
 case atStart => exact ⟨0, rfl, Nat.zero_le _, O1, b1⟩
 case round =>
  obtain ⟨i, rfl, hi, ho, hb⟩ := hrel
  have hsz := hb.size
  rename World => wo
  have f1 := unhide HCE _ hb
  by_cases hin : i < n
  · have HO := hide ho.out.toH
    have hzl := zerosTo_len n xss.length i
    have HZL := Lib.hid hzl
    have HZS := Lib.hid (zerosTo_set n xss.length i)
    clear ho hzl f0
    go_wp2_with (refine wpList_make_ints rfl (.tmp 21) (.tmp 21) rfl .i64 .i64 xss.length rfl rfl (by omega) ?_; intro w3 g3 o3 b3; have hH9 := (unhide HO).belw b3 (Nat.le_refl _); obtain ⟨ak, ck, _, hrw, _⟩ := hH9.own.row (i := i) (by rw [HZL.out]; exact hin); have qc := hrw _ _ _ _ rfl; rw [Nat.zero_add] at qc; have qf := hH9.own.frozen i; have H9 := hide hH9; have O9 := hide o3; clear hH9 hrw o3)
    have pu := ((unhide H9).put (unhide O9) hsz (j := i) (by rw [HZL.out]; exact hin)).1
    rw [HZS.out] at pu
    have PU := hide pu
    have hb3 := (hb.trans (b3.mono hsz)).setCell (p := ⟨w0.heap.size, i, none⟩) (Nat.le_refl _) (.slice (some ⟨g3, 0, none⟩) xss.length xss.length)
    have HB3 := hide hb3
    clear pu hb3
    go_roundw
    case rel => exact ⟨i + 1, by go_num, by omega, unhide PU, unhide HB3⟩
    case measure => simp only [intOf]; omega
  · have hie : i = n := by omega
    have o5 := ho.out
    rw [hie, zerosTo_all] at o5
    have O5 := hide o5
    have hbA := hb
    clear o5 ho hie f0
    go_wp2_with fail
    go_loopw [28] (fun kv wr => ∃ k : Nat, kv = .int .i64 k ∧ k ≤ xss.length ∧ Hid (OwnS wr w0.heap.size (.slice (some ⟨w0.heap.size, 0, none⟩) n n) (incTo n xss k 0)) ∧ Below w0.heap.size w0 wr) (fun kv _ => xss.length - (intOf kv).toNat)
    case atStart => exact ⟨0, rfl, Nat.zero_le _, O5, hbA⟩
    case round =>
     obtain ⟨k, rfl, hk, ho, hb⟩ := hrel
     have hsz2 := hb.size
     rename World => wk
     by_cases hkl : k < xss.length
     · obtain ⟨b1', o1', rfl, hb1', hcc⟩ := (unhide HX).at_ (by omega)
       obtain ⟨ai, ci, h3', hri⟩ := hcc k hkl
       have h3 := (hb.cell (p := ⟨b1', o1' + k, none⟩) hb1').trans h3'
       clear h3'
       have hok := unhide HB k hkl
       obtain ⟨bs, hbs⟩ : ∃ bs, bs = nthL xss k := ⟨_, rfl⟩
       have HBS := Lib.hid hbs
       rw [← hbs] at h3 hri hok
       have hbl : bs.length ≤ 32 := by have := okB_len hok; omega
       have hin2 : ∀ j, j < bs.length → 0 ≤ nth bs j ∧ nth bs j < (n : Int) := fun k hk => okB_mem hok (nth_mem hk)
       have HIN := hide hin2
       have HRI := hide hri
       have OO := ho.out
       clear hbs hok hin2 hcc ho hri
       go_wp2_with fail
       go_loopw [35] (fun jv wr => ∃ j : Nat, jv = .int .i64 j ∧ j ≤ bs.length ∧ Hid (OwnS wr w0.heap.size (.slice (some ⟨w0.heap.size, 0, none⟩) n n) (incTo n xss k j)) ∧ Below w0.heap.size w0 wr) (fun jv _ => bs.length - (intOf jv).toNat)
       case atStart => exact ⟨0, rfl, Nat.zero_le _, OO, hb⟩
       case round =>
        obtain ⟨j, rfl, hj, hom, hbj⟩ := hrel
        have hszj := hbj.size
        by_cases hjl : j < bs.length
        · obtain ⟨b2, o2, rfl, _, hc2⟩ := ((unhide HRI).below hbj).at_ (by omega)
          have g2 := hc2 j hjl
          obtain ⟨hx0, hxn⟩ := (unhide HIN) j hjl
          obtain ⟨x, hxx⟩ : ∃ x : Nat, nth bs j = (x : Int) := ⟨(nth bs j).toNat, by omega⟩
          rw [hxx] at g2 hxn
          have hxl : x < n := by omega
          have his := incTo_set hkl (by rw [← HBS.out]; exact hjl) hxl (by rw [← HBS.out]; exact hxx)
          obtain ⟨ak, ck, hown, hcr, hput⟩ := hom.out.toH.row (i := x) (by rw [incTo_len]; exact hxl)
          have hrl : (nthL (incTo n xss k j) x).length = xss.length := incTo_rowlen hxl
          have qc := hcr _ _ _ _ rfl
          rw [Nat.zero_add] at qc
          obtain ⟨row, hrow⟩ : ∃ row, row = nthL (incTo n xss k j) x := ⟨_, rfl⟩
          rw [← hrow] at hown hput hrl qc his
          obtain ⟨h, hak, hh1⟩ : ∃ h, ak = some ⟨h, 0, none⟩ ∧ w0.heap.size ≤ h := by
           rcases hown.1.slice_form with ⟨_, e⟩ | ⟨h, c', e, h1, _⟩
           · rw [e] at hrl; simp at hrl; omega
           · injection e with e1 _ _
             exact ⟨h, e1, h1⟩
          subst hak
          have hst := hown.1.set k 1
          have hpp := hput _ _ ⟨hst.1, hown.2⟩ (by simp) hst.2
          rw [his] at hpp
          have cc := hown.1.cell (j := k) (by omega)
          have pp := hown.1.frozen k
          obtain ⟨z, hz⟩ : ∃ z, z = nth row k := ⟨_, rfl⟩
          rw [← hz] at cc
          rw [hrl] at qc
          have HPP := hide hpp.own
          have HB5 := hide (hbj.setCell (p := ⟨h, k, none⟩) hh1 (.int .i64 1))
          clear hxx his hown hcr hput hrow hst hpp hz hc2 hom hrl
          go_wp2
          go_roundw
          case rel => exact ⟨j + 1, by go_num, by omega, unhide HPP, unhide HB5⟩
          case measure => simp only [intOf]; omega
        · have hje : j = bs.length := by omega
          have o6 := hom.out
          rw [hje, HBS.out, incTo_next hkl] at o6
          have O6 := hide o6
          clear o6 hom
          go_wp2
          go_roundw
          case rel => exact ⟨k + 1, by go_num, by omega, unhide O6, hbj⟩
          case measure => simp only [intOf]; omega
     · have hke : k = xss.length := by omega
       have o6 := ho.out
       rw [hke] at o6
       have O6 := hide o6
       clear o6 ho hke
       go_wp2
       go_ret
       exact ⟨_, rfl, (unhide O6).mono (by omega), hb0.trans (hb.mono (by omega))⟩
theorem rowsOfBlocks_any (n : Nat) (ra : Option Addr) (rc : Nat) (xss : List (List Int)) (w : World) (hx : RdS w ra xss) (hn : n ≤ 32) (hm : xss.length ≤ 128) (hB : ∀ k, k < xss.length → okB n (nthL xss k) = true) :
    Calls Tryz.prog 29 #[.agg #[.int .i64 (n : Int), .slice ra xss.length rc]] w fun e w' => ∃ v, e = .returned v ∧ OwnS w' w.heap.size v (rowsD n xss) ∧ Below w.heap.size w w' := by
 obtain ⟨w0, hw0⟩ : ∃ w0, w0 = w.alloc (.cells #[.int .i64 (n : Int), .slice ra xss.length rc] 26) := ⟨_, rfl⟩
 have hb0 : Below w.heap.size w w0 := by rw [hw0]; exact (Below.refl _ _).alloc (Nat.le_refl _) _
 have k0 : Blk w0 w.heap.size 26 #[.int .i64 (n : Int), .slice ra xss.length rc] := by rw [hw0]; exact Blk.new _ _ _ rfl
 have s0 : w.heap.size < w0.heap.size := k0.lt
 have HW := Lib.hid hw0
 have hx0 := hx.below hb0
 have hinc := fun W (h : Below w0.heap.size w0 W) => incidences_any n ra rc xss W (hx0.below h) hn hm hB
 have hrl : ∀ r ∈ incTo n xss xss.length 0, r.length = xss.length := fun r hr => by
  obtain ⟨x, hx, rfl⟩ := List.getElem_of_mem hr
  rw [← nthL_lt hx]
  exact incTo_rowlen (by rw [incTo_len] at hx; exact hx)
 have hcol := fun ra2 rc2 W (h : RdS W ra2 (incTo n xss xss.length 0)) => columnsOf_any ra2 rc2 (incTo n xss xss.length 0) xss.length W h hrl (by omega) (by rw [incTo_len]; omega)
 rw [incTo_cols] at hcol
 obtain ⟨M, hM⟩ : ∃ M, M = incTo n xss xss.length 0 := ⟨_, rfl⟩
 simp only [← hM] at hinc hcol
 have HINC := hide hinc
 have HCOL := hide hcol
 have BX := hide (show ∀ W, Below w0.heap.size w0 W → (Below w0.heap.size w0 W ∧ W.cell? ⟨w.heap.size, 0, none⟩ = some (.int .i64 (n : Int)) ∧ W.cell? ⟨w.heap.size, 1, none⟩ = some (.slice ra xss.length rc)) from fun W h => ⟨h, (k0.below h k0.lt).cell 0, (k0.below h k0.lt).cell 1⟩)
 clear hx hB hw0 hx0 hinc hcol hM hrl k0
 go_enter Tryz.func29, Tryz.ntmps29
 go_upto_region 1 with fail
 rw [← HW.out]
 refine wp_region_noPanic ?_
 refine wp_region_ord (S := (fun W => Below w0.heap.size w0 W ∧ W.cell? ⟨w.heap.size, 0, none⟩ = some (.int .i64 (n : Int)) ∧ W.cell? ⟨w.heap.size, 1, none⟩ = some (.slice ra xss.length rc))) [(true, 0), (true, 2), (true, 3), (true, 4), (false, 1), (false, 5), (true, 6)] (by kernel_rfl) (by kernel_rfl) (by kernel_rfl) rfl (fun _ _ _ _ _ h => h) ?_ (fun hHeld => ?_)
 · exact (unhide BX) _ (Below.refl _ _).drew
 refine SeqO.take (by rfl) (v := ?hv1) (by rfl) ?hy1 ?hr1
 case hy1 =>
  intro w hSw
  try dsimp only at hSw
  go_simp
  try (with_reducible rfl)
 try simp only [Act.put, List.setIfInBounds_toArray, List.set_cons_zero, List.set_cons_succ]
 refine SeqO.take (by rfl) (v := ?hv2) (by rfl) ?hy2 ?hr2
 case hy2 =>
  intro w hSw
  try dsimp only at hSw
  go_simp
  try (with_reducible rfl)
 try simp only [Act.put, List.setIfInBounds_toArray, List.set_cons_zero, List.set_cons_succ]
 refine SeqO.take (by rfl) (v := ?hv3) (by rfl) ?hy3 ?hr3
 case hy3 =>
  intro w hSw
  try dsimp only at hSw
  go_simp
  try (with_reducible rfl)
 try simp only [Act.put, List.setIfInBounds_toArray, List.set_cons_zero, List.set_cons_succ]
 refine SeqO.take (by rfl) (v := ?hv4) (by rfl) ?hy4 ?hr4
 case hy4 =>
  intro w hSw
  try dsimp only at hSw
  go_simp
  try (with_reducible rfl)
 try simp only [Act.put, List.setIfInBounds_toArray, List.set_cons_zero, List.set_cons_succ]
 refine SeqO.call (by rfl) (fun K hK => ?_)
 go_simp
 refine ((unhide HINC) _ (And.left hHeld)).mono ?_
 rintro e w3 ⟨v3, rfl, o3, b3⟩
 obtain ⟨a3, c3, rfl, r3⟩ := o3.form
 have d3 := Below.chain (And.left hHeld) b3
 have R3 := hide r3
 have HML := Lib.hid (show (M.length = M.length) from rfl)
 clear hHeld o3 r3
 refine hK.out _ _ ?_ (fun hHeld => ?_)
 · exact (unhide BX) _ d3
 clear hK K
 try simp only [Act.put, List.setIfInBounds_toArray, List.set_cons_zero, List.set_cons_succ]
 refine SeqO.call (by rfl) (fun K hK => ?_)
 go_simp
 refine ((unhide HCOL) _ _ _ ((unhide R3).below (Below.refl _ _))).mono ?_
 rintro e w4 ⟨v4, rfl, o4, b4⟩
 have d4 := Below.chain d3 b4
 have z3 := d3.size
 refine hK.out _ _ ?_ (fun hHeld => ?_)
 · exact (unhide BX) _ d4
 clear hK K
 try simp only [Act.put, List.setIfInBounds_toArray, List.set_cons_zero, List.set_cons_succ]
 refine SeqO.take (by rfl) (v := ?hv5) (by rfl) ?hy5 ?hr5
 case hy5 =>
  intro w hSw
  try dsimp only at hSw
  go_simp
  try (with_reducible rfl)
 try simp only [Act.put, List.setIfInBounds_toArray, List.set_cons_zero, List.set_cons_succ]
 refine SeqO.done (NoPanic.normal ?_)
 go_wp2
 go_ret
 exact ⟨_, rfl, o4.mono (by omega), hb0.trans (d4.mono (by omega))⟩
end Go.Proofs.YtkiljcbejmiioaaGreat
namespace Go.Proofs.YtkiljcbejmiioaaGreat
open Go.RowKit
attribute [local go_sem ↓] Go.wp_at_zero Go.wp_at_succ
def CapS (w : World) (ra : Option Addr) (m : List (List Int)) : Prop := ∀ g ob, ra = some ⟨g, ob, none⟩ → ∀ k, k < m.length → ∀ ai n ci, w.cell? ⟨g, ob + k, none⟩ = some (.slice ai n ci) → n ≤ ci
theorem CapS.below {w w' : World} {ra : Option Addr} {m : List (List Int)} (h : CapS w ra m) (hm : RdS w ra m) (b : Below w.heap.size w w') : CapS w' ra m := by
 intro g ob e k hk ai n ci hc
 obtain ⟨g', ob', e', hg, _⟩ := hm.at_ (by omega)
 rw [e] at e'
 injection e' with e'
 injection e' with e1 e2
 subst e1
 exact h g ob e k hk ai n ci ((b.cell (p := ⟨g, ob + k, none⟩) hg).symm.trans hc)
end Go.Proofs.YtkiljcbejmiioaaGreat
namespace Go.Proofs.YtkiljcbejmiioaaGreat
open Go.RowKit
attribute [local go_sem ↓] Go.wp_at_zero Go.wp_at_succ
theorem RdS.two {w : World} {g : Nat} {a1 a2 : Option Addr} {c1 c2 : Nat} {x1 x2 : List Int} (h1 : w.cell? ⟨g, 0, none⟩ = some (.slice a1 x1.length c1)) (h2 : w.cell? ⟨g, 1, none⟩ = some (.slice a2 x2.length c2)) (r1 : Rd w a1 x1) (r2 : Rd w a2 x2) : RdS w (some ⟨g, 0, none⟩) [x1, x2] := by
 refine ⟨by simp, fun _ => ⟨g, 0, rfl, fun i hi => ?_⟩⟩
 rcases i with _ | _ | i
 · exact ⟨a1, c1, h1, r1⟩
 · exact ⟨a2, c2, h2, r2⟩
 · exact absurd hi (by simp only [List.length_cons, List.length_nil]; omega)
end Go.Proofs.YtkiljcbejmiioaaGreat
