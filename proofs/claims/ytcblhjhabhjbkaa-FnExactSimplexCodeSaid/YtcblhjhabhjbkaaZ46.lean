/-
  Walk: products of matrices, the program's.
-/
import Derived.BigQuiet
import Derived.Deep.DeepCutAuto
import Derived.Deep.DeepMust
import Derived.Deep.DrawnRows
import Derived.Deep.Draws
import Derived.Deep.OwnRows
import Derived.Deep.QuietTactic
import Derived.Deep.RegionHeld3
import Derived.IntWalk
import Derived.Laws.Rows
import Derived.Lib.Hide
import Derived.Maps.AppendAt
import Derived.StillTailTactics
import Derived.Test.YtcblhjhabhjbkaaProg
import Derived.WalkKit
import Derived.WalkLawsBesides
import Derived.WalkSpells
import Derived.Test.YtcblhjhabhjbkaaZ1
import Derived.Test.YtcblhjhabhjbkaaZ39
import Derived.Test.YtcblhjhabhjbkaaZ45
set_option linter.unusedVariables false
set_option linter.unusedSimpArgs false
namespace Go.Proofs.Ytcblhjhabhjbkaa
open Go.RowKit
attribute [local go_sem ↓] Go.wp_at_zero Go.wp_at_succ

def prodTo (F : FD) (a cs : List (List Int)) (i : Nat) : List (List Int) := (a.take i).map fun row => cs.map (dotF F row)
def lineTo (F : FD) (row : List Int) (cs : List (List Int)) (k : Nat) : List Int := (cs.take k).map (dotF F row)
theorem prodTo_len (F : FD) (a cs : List (List Int)) {i : Nat} (hi : i ≤ a.length) : (prodTo F a cs i).length = i := by rw [prodTo, List.length_map, List.length_take]; omega
theorem prodTo_succ (F : FD) (a cs : List (List Int)) {i : Nat} (hi : i < a.length) : prodTo F a cs (i + 1) = prodTo F a cs i ++ [cs.map (dotF F (nthL a i))] := by rw [prodTo, prodTo, take_nthL hi, List.map_append]; rfl
theorem lineTo_len (F : FD) (row : List Int) (cs : List (List Int)) {k : Nat} (hk : k ≤ cs.length) : (lineTo F row cs k).length = k := by rw [lineTo, List.length_map, List.length_take]; omega
theorem lineTo_succ (F : FD) (row : List Int) (cs : List (List Int)) {k : Nat} (hk : k < cs.length) : lineTo F row cs (k + 1) = lineTo F row cs k ++ [dotF F row (nthL cs k)] := by rw [lineTo, lineTo, take_nthL hk, List.map_append]; rfl
theorem cols_Mat {F : FD} (ok : F.Ok) {n : Nat} {m : List (List Int)} (h : F.Mat n m) : F.Mat m.length (cols m n) := by
  have n2 := ok.n_bd
  intro xs hx
  rw [cols, List.mem_map] at hx
  obtain ⟨j, hj, rfl⟩ := hx
  refine ⟨by rw [List.length_map], fun x hx => ?_⟩
  rw [List.mem_map] at hx
  obtain ⟨row, hr, rfl⟩ := hx
  have := h row hr
  rw [List.mem_range] at hj
  exact this.2 _ (nth_mem (by rw [this.1]; exact hj))
theorem cols_cols {F : FD} {n : Nat} {m : List (List Int)} (h : F.Mat n m) : cols (cols m n) m.length = m := by
  refine eq_of_nthL (cols_len _ _) fun i hi => ?_
  rw [cols_len] at hi
  rw [cols_nth _ hi]
  have hl := (Mat_nth h hi).1
  refine eq_of_nth (by rw [List.length_map, cols_len, hl]) fun k hk => ?_
  rw [List.length_map, cols_len] at hk
  rw [nth_lt (by rw [List.length_map, cols_len]; exact hk), List.getElem_map, ← nthL_lt (by rw [cols_len]; exact hk), cols_nth m hk, nth_lt (by rw [List.length_map]; exact hi), List.getElem_map, ← nthL_lt hi]

set_option maxRecDepth 100000 in
set_option maxHeartbeats 3200000 in
theorem times_any (F : FD) (tv : Value) (aa : Option Addr) (ac : Nat) (a : List (List Int)) (ba : Option Addr) (bc : Nat) (b : List (List Int)) (na nb : Nat) (w : World) (hT : Tabs w F tv) (ok : F.Ok) (hx : RdS w aa a) (hy : RdS w ba b) (hMa : F.Mat na a) (hMb : F.Mat nb b) (hbl : b.length = na) (h0 : 0 < b.length) (hnb : nb ≤ 1000000) (hna : na ≤ 1000000) (hal : a.length ≤ 1000000) :
    Calls Try.prog 109 #[tv, .slice aa a.length ac, .slice ba b.length bc] w fun e w' => ∃ v, e = .returned v ∧ OwnS w' w.heap.size v (prodTo F a (cols b nb) a.length) ∧ Below w.heap.size w w' := by
  have hT0 := hT
  obtain ⟨aA, cA, aS, cS, aM, cM, aI, cI, rfl, _, _, _, _⟩ := hT
  obtain ⟨n2, n64⟩ := ok.n_bd
  obtain ⟨W0, hHW⟩ : ∃ z, z = w.alloc (.cells #[.int .i64 F.n, .slice aA F.n cA, .slice aS F.n cS, .slice aM F.n cM, .slice aI F.n cI] 62) := ⟨_, rfl⟩
  have b0 : Below w.heap.size w W0 := by rw [hHW]; exact (Below.refl _ _).alloc (Nat.le_refl _) _
  have kT : Blk W0 w.heap.size 62 #[.int .i64 F.n, .slice aA F.n cA, .slice aS F.n cS, .slice aM F.n cM, .slice aI F.n cI] := by rw [hHW]; exact Blk.new _ _ _ rfl
  have skT : w.heap.size < W0.heap.size := kT.lt
  have HW := Lib.hid hHW
  clear hHW
  have hCO := columnsOf_any ba bc b nb W0 (hy.below b0) (fun xs hx => (hMb xs hx).1) hnb (by omega)
  have hcM := cols_Mat ok hMb
  rw [hbl] at hcM
  have hcl := cols_len b nb
  obtain ⟨gb, ob, rfl, hgb, hcc⟩ := (hy.below b0).at_ h0
  obtain ⟨ai, ci, hr0, _⟩ := hcc 0 h0
  rw [Nat.add_zero, (Mat_nth hMb h0).1] at hr0
  obtain ⟨cs, hcs⟩ : ∃ cs, cs = cols b nb := ⟨_, rfl⟩
  rw [← hcs] at hCO hcM hcl ⊢
  have hDT : ∀ (i k : Nat) (_ : i < a.length) (_ : k < cs.length) a1 c1 a2 c2 W (_ : Tabs W F (.agg #[.int .i64 F.n, .slice aA F.n cA, .slice aS F.n cS, .slice aM F.n cM, .slice aI F.n cI])) (_ : Rd W a1 (nthL a i)) (_ : Rd W a2 (nthL cs k)), Calls Try.prog 148 #[.agg #[.int .i64 F.n, .slice aA F.n cA, .slice aS F.n cS, .slice aM F.n cM, .slice aI F.n cI], .slice a1 na c1, .slice a2 na c2] W fun e w' => e = .returned (.int .i64 (dotF F (nthL a i) (nthL cs k))) ∧ Below W.heap.size W w' := fun i k hi hk a1 c1 a2 c2 W hT r1 r2 =>
    dot_any F _ a1 a2 c1 c2 (nthL a i) (nthL cs k) na W hT ok r1 r2 (Mat_nth hMa hi).1 (Mat_nth hcM hk).1 (Mat_nth hMa hi).2 (Mat_nth hcM hk).2
  have hal2 : ∀ i, i < a.length → (nthL a i).length = na := fun i hi => (Mat_nth hMa hi).1
  have hcl2 : ∀ k, k < cs.length → (nthL cs k).length = na := fun k hk => (Mat_nth hcM hk).1
  have hcle : cs.length ≤ 1000000 := by omega
  have HCO := hide hCO
  have HDT := hide hDT
  have HAL := hide hal2
  have HCL := hide hcl2
  have HX := hide (hx.below b0)
  have HT := hide (hT0.below b0)
  clear hCO hDT hal2 hcl2 hx hy hMa hMb hcM hcs hcl hcc hT0 hbl
  go_enter Try.func109, Try.ntmps109
  go_upto_region 1 with fail
  rw [← HW.out]
  go_wp2_with fail
  refine (unhide HCO).mono ?_
  rintro e w1 ⟨v1, rfl, o1, b1⟩
  obtain ⟨a1, c1, rfl, r1⟩ := o1.form
  have z1 := b1.size
  have R1 := hide r1
  have KT := hide (kT.below b1 kT.lt)
  have HT1 := hide ((unhide HT).below b1)
  have HX1 := hide ((unhide HX).below b1)
  have bw1 := b0.trans (b1.mono (Nat.le_of_lt skT))
  clear o1 r1
  go_wp2_with fail
  go_loopw [7, 22] (fun v iv wr => ∃ i : Nat, iv = .int .i64 i ∧ i ≤ a.length ∧ Hid (OwnS wr w1.heap.size v (prodTo F a cs i)) ∧ Below w1.heap.size w1 wr) (fun _ iv _ => a.length - (intOf iv).toNat)
  case atStart => exact ⟨0, rfl, Nat.zero_le _, OwnS.nil _ _, Below.refl _ _⟩
  case round =>
    obtain ⟨i, rfl, hi, ho, hb⟩ := hrel
    rename World => wo
    have hsz := hb.size
    by_cases hil : i < a.length
    · obtain ⟨gx, ox, rfl, _, hcx⟩ := ((unhide HX1).below hb).at_ (by omega)
      obtain ⟨ax, cx, hx1, hxr⟩ := hcx i hil
      rw [unhide HAL i hil] at hx1
      have HXR := hide hxr
      clear hcx hxr
      go_wp2_with fail
      go_loopw [11, 28] (fun v kv wr => ∃ k : Nat, kv = .int .i64 k ∧ k ≤ cs.length ∧ Hid (Own wr wo.heap.size v (lineTo F (nthL a i) cs k)) ∧ Below wo.heap.size wo wr) (fun _ kv _ => cs.length - (intOf kv).toNat)
      case atStart => exact ⟨0, rfl, Nat.zero_le _, Own.nil _ _, Below.refl _ _⟩
      case round =>
        obtain ⟨k, rfl, hk, ho2, hb2⟩ := hrel
        have hz2 := hb2.size
        have hb12 := hb.trans (hb2.mono hsz)
        by_cases hkl : k < cs.length
        · obtain ⟨gc, oc, rfl, _, hcc⟩ := ((unhide R1).below hb12).at_ (by omega)
          obtain ⟨ay, cy, hy1, hyr⟩ := hcc k hkl
          rw [unhide HCL k hkl] at hy1
          have hd := unhide HDT i k hil hkl ax cx ay cy wr ((unhide HT1).below hb12) ((unhide HXR).below hb2) hyr
          have hst := lineTo_succ F (nthL a i) cs hkl
          have hsl := lineTo_len F (nthL a i) cs hk
          obtain ⟨D, hD⟩ : ∃ D, D = dotF F (nthL a i) (nthL cs k) := ⟨_, rfl⟩
          rw [← hD] at hd hst
          have HD := hide hd
          have HST := Lib.hid hst
          have HSL := Lib.hid hsl
          have kk := (unhide KT).below hb12 (unhide KT).lt
          have g0 := kk.cell 0
          have g1 := kk.cell 1
          have g2 := kk.cell 2
          have g3 := kk.cell 3
          have g4 := kk.cell 4
          clear hd hst hD hsl hcc hyr
          go_wp2_with fail
          refine (unhide HD).mono ?_
          rintro e w6 ⟨rfl, b6⟩
          have o6 := ho2.out.below b6 (Nat.le_refl _)
          have hb6 := hb2.trans (b6.mono hz2)
          have z6 := hb6.size
          go_wp2_with (at_builtin; refine wpList_append_ints rfl (.tmp 32) (.tmp 37) rfl wo.heap.size u11 (lineTo F (nthL a i) cs k) [D] rfl (o6.alloc _) _ 1 1 rfl rfl (Rd.one w6 D _) (by rw [HSL.out]; simp; omega) (by simp; omega) ?_; intro v7 w7 o7 g7 _)
          go_roundw
          case rel => exact ⟨k + 1, by go_num, by omega, by show Own _ _ _ _; rw [HST.out]; exact o7, Below.step (hb6.alloc z6 _) g7 (o6.alloc _) (Nat.le_refl _) (by simp; omega)⟩
          case measure => simp only [intOf]; omega
        · have hke : k = cs.length := by omega
          have HE := Lib.hid hke
          clear hke
          have o5 := ho2.out
          have hli : lineTo F (nthL a i) cs cs.length = cs.map (dotF F (nthL a i)) := by rw [lineTo, List.take_length]
          rw [HE.out, hli] at o5
          have hst := prodTo_succ F a cs hil
          have hsl := prodTo_len F a cs hi
          have hll : (cs.map (dotF F (nthL a i))).length = cs.length := by simp
          obtain ⟨line, hline⟩ : ∃ line, line = cs.map (dotF F (nthL a i)) := ⟨_, rfl⟩
          rw [← hline] at o5 hst hll
          obtain ⟨a5, c5, rfl⟩ := o5.slice_val
          have hH := ho.out.toH.belw hb2 (Nat.le_refl _)
          have HST := Lib.hid hst
          have HSL := Lib.hid hsl
          have O5 := Lib.hid o5
          clear o5 hst hsl hll hline hli
          go_wp2_with (at_builtin; refine wpList_append_row rfl (.tmp 40) (.tmp 42) rfl (v := u7) rfl (hH.belw ((Below.refl _ _).alloc (Nat.le_refl _) _) hz2) _ rfl ((Blk.new wr 22 #[.slice a5 line.length c5] rfl).cell 0) (O5.out.alloc _) hsz (by simp; omega) (by rw [HSL.out]; omega) ?_; intro v2 w2 o2 g2 _)
          go_roundw
          case rel =>
            refine ⟨i + 1, by go_num, by omega, ?_, Below.stepS (hb12.alloc (by omega) _) g2 (hH.belw ((Below.refl _ _).alloc (Nat.le_refl _) _) hz2).own (Nat.le_refl _) (by simp; omega)⟩
            show OwnS _ _ _ _
            rw [HST.out]
            exact o2
          case measure => simp only [intOf]; omega
    · have hke : i = a.length := by omega
      have HE := Lib.hid hke
      clear hke
      go_wp2
      go_ret
      exact ⟨_, rfl, by have o := ho.out; rw [HE.out] at o; exact o.mono bw1.size, bw1.trans (hb.mono bw1.size)⟩
end Go.Proofs.Ytcblhjhabhjbkaa

