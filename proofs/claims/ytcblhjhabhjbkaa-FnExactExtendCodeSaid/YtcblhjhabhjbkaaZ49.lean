/-
  Plain mathematics: rows extended by the element that makes their sum zero.
-/
import Derived.BigQuiet
import Derived.BigRegion
import Derived.ChangeOld
import Derived.Deep.DeepCutAuto
import Derived.Deep.DeepMust
import Derived.Deep.DrawnRows
import Derived.Deep.Draws
import Derived.Deep.OwnRows
import Derived.Deep.QuietTactic
import Derived.Deep.RegionHeld3
import Derived.Deep.Slices
import Derived.IntWalk
import Derived.Laws.Rows
import Derived.Lib.Hide
import Derived.Maps.AppendAt
import Derived.OpenShut
import Derived.OwnWalk
import Derived.ProofKit
import Derived.ShutString
import Derived.StillTailTactics
import Derived.Test.YtcblhjhabhjbkaaProg
import Derived.Test.YtcblhjhabhjbkaaRows
import Derived.WalkKit
import Derived.WalkLawsBesides
import Derived.WalkSpells
import Derived.Test.YtcblhjhabhjbkaaZ24
import Derived.Test.YtcblhjhabhjbkaaZ28
import Derived.Test.YtcblhjhabhjbkaaZ30
import Derived.Test.YtcblhjhabhjbkaaZ37
import Derived.Test.YtcblhjhabhjbkaaZ38
import Derived.Test.YtcblhjhabhjbkaaZ45
set_option linter.unusedVariables false
set_option linter.unusedSimpArgs false
namespace Go.Proofs.Ytcblhjhabhjbkaa
open Go.RowKit

section
variable {F : FD}
def sumR (F : FD) (row : List Int) (k : Nat) : Int := F.sum (fun j => nth row j) k
/-- Elements taken off zero, one after the other. -/
def offTo (F : FD) (row : List Int) : Nat → Int
  | 0 => 0
  | k + 1 => F.sub (offTo F row k) (nth row k)
theorem offTo_eq (ok : F.Ok) (row : List Int) (k : Nat) : offTo F row k = F.sub 0 (sumR F row k) := by
  induction k with
  | zero => show (0 : Int) = F.sub 0 0; rw [sub_self' ok]
  | succ k ih =>
    rw [offTo, ih]
    show F.sub (F.sub 0 (sumR F row k)) (nth row k) = F.sub 0 (F.add (sumR F row k) (nth row k))
    exact lin_eq ok (lin_el ok _ _ _) (lin_el ok _ _ _) (fun z hz => D_lin2 ok hz (D_lin ok _ _ _ hz) (Cg.refl _ _)) (fun z hz => D_lin2 ok hz (Cg.refl _ _) (D_lin ok _ _ _ hz)) fun z => by omega
def extE (F : FD) (row : List Int) : Int := F.sub 0 (sumR F row row.length)
def extRow (F : FD) (row : List Int) : List Int := row ++ [extE F row]
def extM (F : FD) (m : List (List Int)) : List (List Int) := m.map (extRow F)
theorem extRow_len (F : FD) (row : List Int) : (extRow F row).length = row.length + 1 := by simp [extRow]
theorem extRow_lt (F : FD) (row : List Int) {i : Nat} (h : i < row.length) : nth (extRow F row) i = nth row i := by
  rw [nth, nth, extRow, List.getD_eq_getElem?_getD, List.getElem?_append_left h, ← List.getD_eq_getElem?_getD]
theorem extM_len (F : FD) (m : List (List Int)) : (extM F m).length = m.length := by simp [extM]
theorem extM_nth (F : FD) (m : List (List Int)) {i : Nat} (h : i < m.length) : nthL (extM F m) i = extRow F (nthL m i) := by
  rw [nthL_lt (by rw [extM_len]; exact h), nthL_lt h]
  simp [extM]
theorem extM_Mat (ok : F.Ok) {n : Nat} {m : List (List Int)} (h : F.Mat n m) : F.Mat (n + 1) (extM F m) := by
  intro xs hx
  rw [extM, List.mem_map] at hx
  obtain ⟨row, hr, rfl⟩ := hx
  have := h row hr
  refine ⟨by rw [extRow_len, this.1], fun x hx => ?_⟩
  rw [extRow, List.mem_append, List.mem_singleton] at hx
  rcases hx with hx | rfl
  · exact this.2 x hx
  · exact sub_bd ok _ _
theorem ext_ech (ok : F.Ok) {n : Nat} {m : List (List Int)} {pv : List Nat} (h : Ech F n m pv) : Ech F (n + 1) (extM F m) pv := by
  have hr : ∀ j i, j < m.length → i < n → nth (nthL (extM F m) j) i = nth (nthL m j) i := fun j i hj hi => by
    rw [extM_nth F m hj, extRow_lt F _ (by rw [(Mat_nth h.mat hj).1]; exact hi)]
  refine ⟨extM_Mat ok h.mat, by rw [extM_len]; exact h.len, fun j hj => by have := h.lt j hj; omega, h.mono, fun i j hi hj => ?_, fun j i hj hi => ?_⟩
  · rw [hr i _ (by rw [← h.len]; exact hi) (h.lt j hj)]
    exact h.one i j hi hj
  · rw [hr j i (by rw [← h.len]; exact hj) (by have := h.lt j hj; omega)]
    exact h.lead j i hj hi
theorem GC.ext_fix {n : Nat} {m : List (List Int)} (h : GC F n m) : form F (extM F m) (n + 1) = extM F m ∧ mkC F (extM F m) = (F.p, (F.k : Int), F.poly, extM F m, 0) := by
  obtain ⟨pv, _, hE, _⟩ := form_ech h.good h.mat
  rw [h.fix] at hE
  refine ⟨(form_fix h.good (ext_ech h.good.ok hE)).1, ?_⟩
  have h1 := h.m1
  have h8 := h.m8
  have hc := h.cap
  unfold mkC
  rw [extM_len, if_neg (by omega), if_neg (by omega)]
/-- The first i rows extended. -/
def extTo (F : FD) (m : List (List Int)) (i : Nat) : List (List Int) := (m.take i).map (extRow F) ++ m.drop i
theorem extTo_len (F : FD) (m : List (List Int)) {i : Nat} (hi : i ≤ m.length) : (extTo F m i).length = m.length := by simp [extTo]; omega
theorem extTo_nth (F : FD) (m : List (List Int)) {i : Nat} (hi : i < m.length) : nthL (extTo F m i) i = nthL m i := by
  have hl : ((m.take i).map (extRow F)).length = i := by simp; omega
  rw [nthL, nthL, extTo, List.getD_eq_getElem?_getD, List.getElem?_append_right (by omega), hl, Nat.sub_self, List.getElem?_drop, Nat.add_zero, ← List.getD_eq_getElem?_getD]
theorem extTo_succ (F : FD) (m : List (List Int)) {i : Nat} (hi : i < m.length) : (extTo F m i).set i (extRow F (nthL m i)) = extTo F m (i + 1) := by
  have hl : ((m.take i).map (extRow F)).length = i := by simp; omega
  rw [extTo, List.set_append_right _ _ (by omega), hl, Nat.sub_self, extTo, take_nthL hi, List.map_append, List.append_assoc, List.drop_eq_getElem_cons hi]
  rfl
theorem extTo_zero (F : FD) (m : List (List Int)) : extTo F m 0 = m := by simp [extTo]
theorem extTo_all (F : FD) (m : List (List Int)) : extTo F m m.length = extM F m := by simp [extTo, extM]
def extUp (F : FD) (m : List (List Int)) (i : Nat) : List (List Int) := (m.take i).map (extRow F)
theorem extUp_len (F : FD) (m : List (List Int)) {i : Nat} (hi : i ≤ m.length) : (extUp F m i).length = i := by simp [extUp]; omega
theorem extUp_succ (F : FD) (m : List (List Int)) {i : Nat} (hi : i < m.length) : extUp F m (i + 1) = extUp F m i ++ [extRow F (nthL m i)] := by rw [extUp, extUp, take_nthL hi, List.map_append]; rfl
theorem extUp_all (F : FD) (m : List (List Int)) : extUp F m m.length = extM F m := by rw [extUp, List.take_length, extM]
end
end Go.Proofs.Ytcblhjhabhjbkaa

/-
  Walks: ExtendCode on both sides. Printed by gen_ext.py.
-/
namespace Go.Proofs.Ytcblhjhabhjbkaa
open Go.RowKit
attribute [local go_sem ↓] Go.wp_at_zero Go.wp_at_succ
def extV (F : FD) (n : Nat) (m : List (List Int)) : Int × Int × List Int × List (List Int) × Int := if n = 32 then (0, 0, [], [], 5) else (F.p, F.k, F.poly, extM F m, 0)
def extRes (p d : Int) (xs : List Int) (m : List (List Int)) : Int × Int × List Int × List (List Int) × Int := if okC p d xs m = true then extV (fdR p d xs) (nthL m 0).length m else (0, 0, [], [], 1)
set_option maxRecDepth 100000 in
set_option maxHeartbeats 3200000 in
theorem implEX_any (p d : Int) (a : Option Addr) (c : Nat) (xs : List Int) (ra : Option Addr) (rc : Nat) (m : List (List Int)) (w : World) (hx : Rd w a xs) (hm : RdS w ra m) (ed : I64 d) : Calls Try.prog 19 #[.agg #[.int .i64 p, .int .i64 d, .slice a xs.length c, .slice ra m.length rc]] w (ResC w (extRes p d xs m)) := by
  have hml := hm.len
  generalize hR : extRes p d xs m = r
  obtain ⟨W0, hHW⟩ : ∃ z, z = (w.alloc (.cells #[.int .i64 p, .int .i64 d, .slice a xs.length c, .slice ra m.length rc] 31)).alloc (.cells #[.int .i64 0, .int .i64 0, .slice none 0 0, .slice none 0 0] 31) := ⟨_, rfl⟩
  have b0 : Below w.heap.size w W0 := by rw [hHW]; exact ((Below.refl _ _).alloc (Nat.le_refl _) _).alloc (by simp) _
  have k0 : Blk W0 w.heap.size 31 #[.int .i64 p, .int .i64 d, .slice a xs.length c, .slice ra m.length rc] := by rw [hHW]; exact (Blk.new _ _ _ rfl).alloc _
  have kr : Blk W0 (w.heap.size + 1) 31 #[.int .i64 0, .int .i64 0, .slice none 0 0, .slice none 0 0] := by rw [hHW]; exact Blk.new _ _ _ (by simp)
  have sk0 : w.heap.size + 1 < W0.heap.size := kr.lt
  have sk1 : w.heap.size ≤ W0.heap.size := by omega
  have HW := Lib.hid hHW
  clear hHW
  have hV := implVC_any p d a c xs ra rc m W0 (hx.below b0) (hm.below b0) ed
  cases hk : okC p d xs m with
  | false =>
    have HN := Lib.hid (show r = (0, 0, [], [], 1) by rw [← hR, extRes, hk]; rfl)
    rw [hk] at hV
    have HV := hide hV
    clear hV hk hR
    have f0 := k0.cell 0
    have f1 := k0.cell 1
    have f2 := k0.cell 2
    have f3 := k0.cell 3
    go_enter Try.func19, Try.ntmps19
    go_upto_region 1 with fail
    rw [← HW.out]
    go_wp2_with fail
    refine (unhide HV).mono ?_
    rintro e w1 ⟨rfl, b1⟩
    have k1 := k0.below b1 k0.lt
    have kr1 := kr.below b1 kr.lt
    clear f0 f1 f2 f3
    have f0 := k1.cell 0
    have f1 := k1.cell 1
    have f2 := k1.cell 2
    have f3 := k1.cell 3
    have bb1 := b0.trans (b1.mono sk1)
    have z1 := b1.size
    have r0 := kr1.cell 0
    have r1 := kr1.cell 1
    have r2 := kr1.cell 2
    have r3 := kr1.cell 3
    have s0 := kr1.frozen 0
    have s1 := kr1.frozen 1
    have s2 := kr1.frozen 2
    have s3 := kr1.frozen 3
    go_wp2
    refine bodyPost_ret (results_cell_tmp_row rfl _ _ (w.heap.size + 1) 31 #[.int .i64 0, .int .i64 0, .slice none 0 0, .slice none 0 0] _ rfl (kr1.b4.store _ _ _ _) Try.underlying31 rfl (by kernel_rfl)) rfl ?_
    rw [HN.out]
    exact ⟨_, _, rfl, OwnC.nil _ _, Below.set4 bb1 (by omega) _ _ _ _⟩
  | true =>
    obtain ⟨F, n, rfl, rfl, rfl, hC⟩ := okC_gc hk
    have ok := hC.good.ok
    obtain ⟨n2, n64⟩ := ok.n_bd
    have hm1 := hC.m1
    have hm0 : 0 < m.length := by omega
    have hm8 := hC.m8
    have hn1 := hC.n1
    have hn32 := hC.n32
    rw [hk] at hV
    have HV := hide hV
    have hRR : r = extV F n m := by rw [← hR, extRes, hk, fdR_eq, hC.hn]; rfl
    clear hV hk hR
    have hG := hC.good
    obtain ⟨hfix, hmk⟩ := hC.ext_fix
    have hL := fun W (h : Below W0.heap.size W0 W) => lengthOf_any F.p F.k a F.poly.length c ra rc m W ((hm.below b0).below h) hm1
    rw [hC.hn] at hL
    have HL := hide hL
    have KB := hide (show ∀ W, Below W0.heap.size W0 W → Blk W w.heap.size 31 #[.int .i64 F.p, .int .i64 F.k, .slice a F.poly.length c, .slice ra m.length rc] from fun W h => k0.below h k0.lt)
    rw [extV] at hRR
    by_cases hn0 : n = 32
    ·
      rw [if_pos hn0] at hRR
      have hbe : ((n : Int) == 32) = true := by rw [hn0]; rfl
      have HN := Lib.hid hRR
      clear hRR hn0 hC hfix hmk
      have f0 := k0.cell 0
      have f1 := k0.cell 1
      have f2 := k0.cell 2
      have f3 := k0.cell 3
      go_enter Try.func19, Try.ntmps19
      go_upto_region 1 with fail
      rw [← HW.out]
      go_wp2_with fail
      refine (unhide HV).mono ?_
      rintro e w1 ⟨rfl, b1⟩
      have k1 := k0.below b1 k0.lt
      have kr1 := kr.below b1 kr.lt
      clear f0 f1 f2 f3
      have f0 := k1.cell 0
      have f1 := k1.cell 1
      have f2 := k1.cell 2
      have f3 := k1.cell 3
      have bb1 := b0.trans (b1.mono sk1)
      have z1 := b1.size
      go_wp2_with fail
      refine (unhide HL w1 b1).mono ?_
      rintro e w2 ⟨rfl, b2⟩
      have c2 := Below.chain b1 b2
      have bb2 := b0.trans (c2.mono sk1)
      have k2 := unhide KB w2 c2
      have kr2 := kr.below c2 kr.lt
      clear f0 f1 f2 f3
      have f0 := k2.cell 0
      have f1 := k2.cell 1
      have f2 := k2.cell 2
      have f3 := k2.cell 3
      have r0 := kr2.cell 0
      have r1 := kr2.cell 1
      have r2 := kr2.cell 2
      have r3 := kr2.cell 3
      have s0 := kr2.frozen 0
      have s1 := kr2.frozen 1
      have s2 := kr2.frozen 2
      have s3 := kr2.frozen 3
      go_wp2
      refine bodyPost_ret (results_cell_tmp_row rfl _ _ (w.heap.size + 1) 31 #[.int .i64 0, .int .i64 0, .slice none 0 0, .slice none 0 0] _ rfl (kr2.b4.store _ _ _ _) Try.underlying31 rfl (by kernel_rfl)) rfl ?_
      rw [HN.out]
      exact ⟨_, _, rfl, OwnC.nil _ _, Below.set4 bb2 (by omega) _ _ _ _⟩
    ·
      rw [if_neg hn0, ← hmk] at hRR
      have hbe : ((n : Int) == 32) = false := by rw [beq_eq_false_iff_ne]; omega
      have hT := fun W (h : Below W0.heap.size W0 W) => tablesOf_any F a c W ((hx.below b0).below h) ok
      have hCP := fun W (h : Below W0.heap.size W0 W) => copyLists_any ra rc m W ((hm.below b0).below h)
      have hCO := fun b d W (h : Below W0.heap.size W0 W) (hy : RdS W b (extM F m)) => codeOf_all F a c b d (extM F m) (n + 1) W ((hx.below b0).below h) hG hy (extM_Mat ok hC.mat)
      rw [hfix] at hCO
      have hMT := fun i (hi : i < m.length) => Mat_nth hC.mat hi
      have HT := hide hT
      have HCP := hide hCP
      have HCO := hide hCO
      have HMT := hide hMT
      have HRR := Lib.hid hRR
      clear hRR hn0 hC hfix hmk hT hCP hCO hMT
      have f0 := k0.cell 0
      have f1 := k0.cell 1
      have f2 := k0.cell 2
      have f3 := k0.cell 3
      go_enter Try.func19, Try.ntmps19
      go_upto_region 1 with fail
      rw [← HW.out]
      go_wp2_with fail
      refine (unhide HV).mono ?_
      rintro e w1 ⟨rfl, b1⟩
      have k1 := k0.below b1 k0.lt
      have kr1 := kr.below b1 kr.lt
      clear f0 f1 f2 f3
      have f0 := k1.cell 0
      have f1 := k1.cell 1
      have f2 := k1.cell 2
      have f3 := k1.cell 3
      have bb1 := b0.trans (b1.mono sk1)
      have z1 := b1.size
      go_wp2_with fail
      refine (unhide HL w1 b1).mono ?_
      rintro e w2 ⟨rfl, b2⟩
      have c2 := Below.chain b1 b2
      have bb2 := b0.trans (c2.mono sk1)
      have k2 := unhide KB w2 c2
      have kr2 := kr.below c2 kr.lt
      clear f0 f1 f2 f3
      have f0 := k2.cell 0
      have f1 := k2.cell 1
      have f2 := k2.cell 2
      have f3 := k2.cell 3
      go_wp2_with fail
      refine (unhide HT w2 c2).mono ?_
      rintro e w3 ⟨tv, rfl, t3, b3⟩
      obtain ⟨aA, cA, aS, cS, aM, cM, aI, cI, rfl, t3A, t3S, t3M, t3I⟩ := t3
      obtain ⟨W4, hH4⟩ : ∃ z, z = w3.alloc (.cells #[.int .i64 F.n, .slice aA F.n cA, .slice aS F.n cS, .slice aM F.n cM, .slice aI F.n cI] 62) := ⟨_, rfl⟩
      have b4 : Below w3.heap.size w3 W4 := by rw [hH4]; exact (Below.refl _ _).alloc (Nat.le_refl _) _
      have kT : Blk W4 w3.heap.size 62 #[.int .i64 F.n, .slice aA F.n cA, .slice aS F.n cS, .slice aM F.n cM, .slice aI F.n cI] := by rw [hH4]; exact Blk.new _ _ _ rfl
      have H4 := Lib.hid hH4
      clear hH4
      have c4 := Below.chain (Below.chain c2 b3) b4
      have k4 := unhide KB W4 c4
      have TA := hide (t3A.below b4)
      have TS := hide (t3S.below b4)
      clear f0 f1 f2 f3 t3A t3S t3M t3I
      have f3 := k4.cell 3
      go_upto_region 6 with fail
      rw [← H4.out]
      go_wp2_with fail
      refine (unhide HCP W4 c4).mono ?_
      rintro e w5 ⟨v5, rfl, o5, b5⟩
      obtain ⟨gr, cr, rfl, hgr, hgr1, hcr, hcr2⟩ := o5.at_ hm0
      have c5 := Below.chain c4 b5
      have z45 := b5.size
      have kT5 := kT.below b5 kT.lt
      have KT5 := hide kT5
      rw [← extTo_zero F m] at o5
      have O5 := Lib.hid o5
      have hl0 := extTo_len F m (Nat.zero_le m.length)
      have hsk3 : w3.heap.size < W4.heap.size := kT.lt
      clear f3 o5 kT5
      rw [hl0] at *
      go_wp2_with fail
      go_loopw [27] (fun iv wr => ∃ i : Nat, iv = .int .i64 i ∧ i ≤ m.length ∧ Hid (OwnS wr W4.heap.size (.slice (some ⟨gr, 0, none⟩) m.length cr) (extTo F m i)) ∧ Below W4.heap.size W4 wr) (fun iv _ => m.length - (intOf iv).toNat)
      case atStart => exact ⟨0, rfl, Nat.zero_le _, O5, b5⟩
      case round =>
        obtain ⟨i, rfl, hi, ho, hb⟩ := hrel
        rename World => wo
        have hsz := hb.size
        by_cases hil : i < m.length
        · have hel := extTo_len F m hi
          obtain ⟨ax, cx, orow, hrow, _⟩ := ho.out.row (i := i) (by rw [hel]; exact hil)
          have hcell := hrow _ _ _ _ rfl
          rw [Nat.zero_add, extTo_nth F m hil] at hcell
          rw [extTo_nth F m hil] at orow
          have hfz := ho.out.frozen i
          have hmt := unhide HMT i hil
          have hst := extTo_succ F m hil
          obtain ⟨row, hrw⟩ : ∃ row, row = nthL m i := ⟨_, rfl⟩
          rw [← hrw] at hcell orow hmt hst
          have kk := (unhide KT5)
          have kTo := kT.below hb kT.lt
          have hrl : row.length ≤ 32 := by omega
          have TAo := hide ((unhide TA).below hb)
          have TSo := hide ((unhide TS).below hb)
          have HMTT := hide hmt
          have HEL := Lib.hid hel
          have HST := Lib.hid hst
          have OR := hide orow
          have g1 := kTo.cell 1
          clear hrw hmt hel hst orow
          go_wp2_with fail
          go_loopw [8, 34] (fun sv kv wr => ∃ (k s : Nat), kv = .int .i64 k ∧ sv = .int .i64 s ∧ k ≤ row.length ∧ s < F.n ∧ Hid ((s : Int) = sumR F row k) ∧ wo = wr) (fun _ kv _ => row.length - (intOf kv).toNat)
          case atStart => exact ⟨0, 0, rfl, rfl, Nat.zero_le _, by omega, rfl, rfl⟩
          case round =>
            obtain ⟨k, s, rfl, rfl, hk, hs, hS, rfl⟩ := hrel
            by_cases hkl : k < row.length
            · obtain ⟨gx, ox, rfl, _, hcx⟩ := (unhide OR).rd.at_ (by omega)
              have cx2 := hcx k hkl
              have hxr := (unhide HMTT).2 _ (nth_mem hkl)
              have hst : sumR F row (k + 1) = F.add s (nth row k) := by rw [hS.out]; rfl
              obtain ⟨x, hx2⟩ := Int.eq_ofNat_of_zero_le hxr.1
              rw [hx2] at cx2 hxr hst
              have hxn : x < F.n := by omega
              obtain ⟨bA, oA, ba, oa, ca, rfl, a1, a2⟩ := tab_at (unhide TAo) (i := s) (j := x) hs hxn
              have hDb := add_bd ok s x
              obtain ⟨D, hD⟩ := Int.eq_ofNat_of_zero_le hDb.1
              rw [hD] at a2 hst hDb
              have hDn : D < F.n := by omega
              have HS2 := Lib.hid hst
              clear hst hD hx2 hcx hxr hDb
              go_wp2
              go_roundw
              case rel => exact ⟨k + 1, D, by go_num, rfl, by omega, hDn, HS2.out.symm, trivial⟩
              case measure => simp only [intOf]; omega
            · have hke : k = row.length := by omega
              have HK := Lib.hid hke
              have hext : extRow F row = row ++ [F.sub 0 s] := by rw [extRow, extE, hS.out, hke]
              obtain ⟨bS, oS, bs, os, cs, rfl, s1, s2⟩ := tab_at (unhide TSo) (i := 0) (j := s) (by omega) hs
              rw [show ((0 : Nat) : Int) = 0 from rfl] at s2
              rw [Nat.add_zero] at s1
              obtain ⟨D, hD⟩ : ∃ D, D = F.sub 0 s := ⟨_, rfl⟩
              rw [← hD] at s2 hext
              have hn00 : 0 < F.n := by omega
              have g2 := kTo.cell 2
              have HX := Lib.hid hext
              have hgro : gr < wo.heap.size := World.block_lt_of_cell? wo _ hcell
              have cal : ∀ o : Obj, o = .cells #[.int .i64 D] 2 → (wo.alloc o).cell? ⟨gr, i, none⟩ = some (.slice ax row.length cx) := fun o _ => (World.cell?_alloc_lt wo o ⟨gr, i, none⟩ hgro).trans hcell
              have CAL := hide cal
              clear hke hD hext cal
              go_wp2_with (at_builtin; refine wpList_append_ints rfl (.tmp 49) (.tmp 57) rfl W4.heap.size (.slice ax row.length cx) row [D] rfl ((unhide OR).alloc _) _ 1 1 rfl rfl (Rd.one wo D _) (by simp; omega) (by simp; omega) ?_; intro v7 w7 o7 g7 hb7; obtain ⟨a7, c7, rfl⟩ := o7.slice_val; have oA := ho.out.alloc (.cells #[.int .i64 D] 2); have cA := (unhide CAL) _ rfl; have q7 := oA.cell_grown (j := i) (by rw [HEL.out]; exact hil) cA g7; have qc := q7.1; have qf := q7.2)
              go_roundw
              case rel =>
                have oS := oA.appended (j := i) (by rw [HEL.out]; exact hil) cA o7 g7 hb7
                rw [show (row ++ [D]).length = row.length + 1 by simp] at oS
                refine ⟨i + 1, by go_num, by omega, ?_, ((hb.alloc (by omega) _).grown g7 (by simp; omega) (fun q hq => ((unhide OR).lt q hq).1)).setCell hgr _⟩
                show OwnS _ _ _ _
                rw [← HST.out, HX.out]
                exact oS
              case measure => simp only [intOf]; omega
        · have hke : i = m.length := by omega
          have HK := Lib.hid hke
          clear hke
          have oE := ho.out
          rw [HK.out, extTo_all] at oE
          have hxl := extM_len F m
          obtain ⟨E, hE⟩ : ∃ E, E = extM F m := ⟨_, rfl⟩
          have hcd := unhide HCO (some ⟨gr, 0, none⟩) cr wo (Below.chain c4 hb) oE.rd
          rw [← hE] at hcd hxl
          rw [hxl] at hcd
          have HE := Lib.hid hE
          have HCD := hide hcd
          have cE := Below.chain c4 hb
          have kb := unhide KB wo cE
          have f0 := kb.cell 0
          have f1 := kb.cell 1
          have f2 := kb.cell 2
          have zE := cE.size
          have p3 : w.heap.size + 1 < wo.heap.size := by omega
          have HR2 := Lib.hid (show r = mkC F E by rw [HRR.out, HE.out])
          clear hcd oE ho hE hxl
          go_wp2_with fail
          refine (unhide HCD).mono ?_
          rintro e w8 ⟨v8, u8, rfl, o4, b8⟩
          have c8 := Below.chain cE b8
          have bb8 := b0.trans (c8.mono sk1)
          have kr8 := kr.below c8 kr.lt
          obtain ⟨qq, hqq⟩ : ∃ qq, qq = mkC F E := ⟨_, rfl⟩
          rw [← hqq] at o4 ⊢
          obtain ⟨rp, rd, rx, ry, rz⟩ := qq
          simp only [] at o4 ⊢
          obtain ⟨a4, c4, p4, d4, rfl, rfl, _, _⟩ := o4.form
          have HQ := Lib.hid hqq
          clear hqq
          have r0 := kr8.cell 0
          have r1 := kr8.cell 1
          have r2 := kr8.cell 2
          have r3 := kr8.cell 3
          have s0 := kr8.frozen 0
          have s1 := kr8.frozen 1
          have s2 := kr8.frozen 2
          have s3 := kr8.frozen 3
          go_wp2
          refine bodyPost_ret (results_cell_tmp_row rfl _ _ (w.heap.size + 1) 31 #[.int .i64 rp, .int .i64 rd, .slice a4 rx.length c4, .slice p4 ry.length d4] _ rfl (kr8.b4.store _ _ _ _) Try.underlying31 rfl (by kernel_rfl)) rfl ?_
          rw [HR2.out, ← HQ.out]
          refine ⟨_, _, rfl, ?_, Below.set4 bb8 (by omega) _ _ _ _⟩
          exact ((((o4.storeBelow p3 _).storeBelow p3 _).storeBelow p3 _).storeBelow p3 _).mono (by omega)
set_option maxRecDepth 100000 in
set_option maxHeartbeats 6400000 in
theorem specEX_any (p d : Int) (a : Option Addr) (c : Nat) (xs : List Int) (ra : Option Addr) (rc : Nat) (m : List (List Int)) (w : World) (hx : Rd w a xs) (hm : RdS w ra m) : Calls Try.prog 18 #[.agg #[.int .i64 p, .int .i64 d, .slice a xs.length c, .slice ra m.length rc]] w (SpC w w.heap.size (extRes p d xs m)) := by
  have hml := hm.len
  generalize hR : extRes p d xs m = r
  obtain ⟨W0, hHW⟩ : ∃ z, z = (w.alloc (.cells #[.int .i64 p, .int .i64 d, .slice a xs.length c, .slice ra m.length rc] 31)).alloc (.cells #[.int .i64 0, .int .i64 0, .slice none 0 0, .slice none 0 0] 31) := ⟨_, rfl⟩
  have b0 : Below w.heap.size w W0 := by rw [hHW]; exact ((Below.refl _ _).alloc (Nat.le_refl _) _).alloc (by simp) _
  have k0 : Blk W0 w.heap.size 31 #[.int .i64 p, .int .i64 d, .slice a xs.length c, .slice ra m.length rc] := by rw [hHW]; exact (Blk.new _ _ _ rfl).alloc _
  have kr : Blk W0 (w.heap.size + 1) 31 #[.int .i64 0, .int .i64 0, .slice none 0 0, .slice none 0 0] := by rw [hHW]; exact Blk.new _ _ _ (by simp)
  have sk0 : w.heap.size + 1 < W0.heap.size := kr.lt
  have sk1 : w.heap.size ≤ W0.heap.size := by omega
  have HW := Lib.hid hHW
  clear hHW
  have hC0 : PC W0 w.heap.size p d a c xs ra rc m := ⟨⟨k0.cell 0, k0.cell 1, k0.cell 2, hx.below b0⟩, k0.cell 3, hm.below b0⟩
  have hV := l18Ok_any w.heap.size p d a c xs ra rc m W0 hC0
  cases hk : okC p d xs m with
  | false =>
    have HN := Lib.hid (show r = (0, 0, [], [], 1) by rw [← hR, extRes, hk]; rfl)
    rw [hk] at hV
    have HV := hide hV
    clear hV hk hR hC0
    have f0 := k0.cell 0
    have f1 := k0.cell 1
    have f2 := k0.cell 2
    have f3 := k0.cell 3
    go_enter Try.func18, Try.ntmps18
    go_upto_region 1 with fail
    rw [← HW.out]
    go_wp2_with fail
    refine (unhide HV).mono ?_
    rintro e w1 ⟨rfl, b1⟩
    have k1 := k0.below b1 k0.lt
    have kr1 := kr.below b1 kr.lt
    clear f0 f1 f2 f3
    have f0 := k1.cell 0
    have f1 := k1.cell 1
    have f2 := k1.cell 2
    have f3 := k1.cell 3
    have bb1 := b0.trans (b1.mono sk1)
    have z1 := b1.size
    have r0 := kr1.cell 0
    have r1 := kr1.cell 1
    have r2 := kr1.cell 2
    have r3 := kr1.cell 3
    have s0 := kr1.frozen 0
    have s1 := kr1.frozen 1
    have s2 := kr1.frozen 2
    have s3 := kr1.frozen 3
    go_wp2
    refine bodyPost_ret (results_cell_tmp_row rfl _ _ (w.heap.size + 1) 31 #[.int .i64 0, .int .i64 0, .slice none 0 0, .slice none 0 0] _ rfl (kr1.b4.store _ _ _ _) Try.underlying31 rfl (by kernel_rfl)) rfl ?_
    rw [HN.out]
    exact ⟨_, _, rfl, Own.nil _ _, OwnS.nil _ _, Below.set4 bb1 (by omega) _ _ _ _⟩
  | true =>
    obtain ⟨F, n, rfl, rfl, rfl, hC⟩ := okC_gc hk
    have ok := hC.good.ok
    obtain ⟨n2, n64⟩ := ok.n_bd
    have hm1 := hC.m1
    have hm0 : 0 < m.length := by omega
    have hm8 := hC.m8
    have hn1 := hC.n1
    have hn32 := hC.n32
    rw [hk] at hV
    have HV := hide hV
    have hRR : r = extV F n m := by rw [← hR, extRes, hk, fdR_eq, hC.hn]; rfl
    clear hV hk hR
    obtain ⟨gb, ob, rfl, hgb, hcc⟩ := hC0.2.2.at_ hm0
    have hcc2 : ∀ k, k < m.length → ∃ ak ck, W0.cell? ⟨gb, ob + k, none⟩ = some (.slice ak n ck) ∧ Rd W0 ak (nthL m k) := fun k hk => by
      obtain ⟨ak, ck, h1, h2⟩ := hcc k hk
      rw [(Mat_nth hC.mat hk).1] at h1
      exact ⟨ak, ck, h1, h2⟩
    obtain ⟨a00, c00, h00, _⟩ := hcc2 0 hm0
    rw [Nat.add_zero] at h00
    have hp2 := ok.p2
    have hp64 := ok.p64
    have hMT := fun i (hi : i < m.length) => Mat_nth hC.mat hi
    have hPF := hC0.1.pf
    have HCC := hide hcc2
    have HMT := hide hMT
    have HPF := hide hPF
    have hwr : IntKind.i64.wrap (F.p - 1) = F.p - 1 := IntWalk.i64_in _ (by omega)
    have KB := hide (show ∀ W, Below W0.heap.size W0 W → Blk W w.heap.size 31 #[.int .i64 F.p, .int .i64 F.k, .slice a F.poly.length c, .slice (some ⟨gb, ob, none⟩) m.length rc] from fun W h => k0.below h k0.lt)
    rw [extV] at hRR
    by_cases hn0 : n = 32
    ·
      rw [if_pos hn0] at hRR
      have hbe : ((n : Int) == 32) = true := by rw [hn0]; rfl
      have hbe2 : (n == 32) = true := by rw [hn0]; rfl
      have HN := Lib.hid hRR
      clear hRR hn0 hC hC0 hcc hcc2 hMT hPF
      have f0 := k0.cell 0
      have f1 := k0.cell 1
      have f2 := k0.cell 2
      have f3 := k0.cell 3
      go_enter Try.func18, Try.ntmps18
      go_upto_region 1 with fail
      rw [← HW.out]
      go_wp2_with fail
      refine (unhide HV).mono ?_
      rintro e w1 ⟨rfl, b1⟩
      have k1 := k0.below b1 k0.lt
      have kr1 := kr.below b1 kr.lt
      clear f0 f1 f2 f3
      have f0 := k1.cell 0
      have f1 := k1.cell 1
      have f2 := k1.cell 2
      have f3 := k1.cell 3
      have bb1 := b0.trans (b1.mono sk1)
      have z1 := b1.size
      have h01 := (b1.cell (p := ⟨gb, ob, none⟩) hgb).trans h00
      have r0 := kr1.cell 0
      have r1 := kr1.cell 1
      have r2 := kr1.cell 2
      have r3 := kr1.cell 3
      have s0 := kr1.frozen 0
      have s1 := kr1.frozen 1
      have s2 := kr1.frozen 2
      have s3 := kr1.frozen 3
      go_wp2
      refine bodyPost_ret (results_cell_tmp_row rfl _ _ (w.heap.size + 1) 31 #[.int .i64 0, .int .i64 0, .slice none 0 0, .slice none 0 0] _ rfl (kr1.b4.store _ _ _ _) Try.underlying31 rfl (by kernel_rfl)) rfl ?_
      rw [HN.out]
      exact ⟨_, _, rfl, Own.nil _ _, OwnS.nil _ _, Below.set4 bb1 (by omega) _ _ _ _⟩
    ·
      rw [if_neg hn0] at hRR
      have hbe : ((n : Int) == 32) = false := by rw [beq_eq_false_iff_ne]; omega
      have hbe2 : (n == 32) = false := by rw [beq_eq_false_iff_ne]; omega
      have HRR := Lib.hid hRR
      clear hRR hn0 hC hC0 hcc hcc2 hMT hPF
      have f0 := k0.cell 0
      have f1 := k0.cell 1
      have f2 := k0.cell 2
      have f3 := k0.cell 3
      go_enter Try.func18, Try.ntmps18
      go_upto_region 1 with fail
      rw [← HW.out]
      go_wp2_with fail
      refine (unhide HV).mono ?_
      rintro e w1 ⟨rfl, b1⟩
      have k1 := k0.below b1 k0.lt
      have kr1 := kr.below b1 kr.lt
      clear f0 f1 f2 f3
      have f0 := k1.cell 0
      have f1 := k1.cell 1
      have f2 := k1.cell 2
      have f3 := k1.cell 3
      have bb1 := b0.trans (b1.mono sk1)
      have z1 := b1.size
      have h01 := (b1.cell (p := ⟨gb, ob, none⟩) hgb).trans h00
      go_wp2_with fail
      go_loopw [4, 5] (fun v iv wr => ∃ i : Nat, iv = .int .i64 i ∧ i ≤ m.length ∧ Hid (OwnS wr w1.heap.size v (extUp F m i)) ∧ Below w1.heap.size w1 wr) (fun _ iv _ => m.length - (intOf iv).toNat)
      case atStart => exact ⟨0, rfl, Nat.zero_le _, OwnS.empty w1 (Nat.le_refl _), (Below.refl _ _).alloc (Nat.le_refl _) _⟩
      case round =>
        obtain ⟨i, rfl, hi, ho, hb⟩ := hrel
        rename World => wo
        have hsz := hb.size
        have co := Below.chain b1 hb
        have c3 := (unhide KB wo co).cell 3
        by_cases hil : i < m.length
        · obtain ⟨ax, cx, hx1, hxr⟩ := unhide HCC i hil
          have hmt := unhide HMT i hil
          have hst := extUp_succ F m hil
          have hsl := extUp_len F m hi
          obtain ⟨row, hrw⟩ : ∃ row, row = nthL m i := ⟨_, rfl⟩
          rw [← hrw] at hxr hmt hst
          have hext : extRow F row = row ++ [offTo F row n] := by rw [extRow, extE, offTo_eq ok, hmt.1]
          have hrl : row.length ≤ 32 := by omega
          have HXR := hide hxr
          have HMTT := hide hmt
          have HST := Lib.hid hst
          have HSL := Lib.hid hsl
          have HXX := Lib.hid hext
          clear hrw hmt hst hsl hext hxr
          go_wp2_with fail
          go_loopw [6, 7] (fun sv kv wr => ∃ (k : Nat) (s : Int), kv = .int .i64 k ∧ sv = .int .i64 s ∧ k ≤ n ∧ 0 ≤ s ∧ s < F.n ∧ Hid (s = offTo F row k) ∧ Below wo.heap.size wo wr) (fun _ kv _ => n - (intOf kv).toNat)
          case atStart => exact ⟨0, 0, rfl, rfl, Nat.zero_le _, Int.le_refl _, by omega, rfl, Below.refl _ _⟩
          case round =>
            obtain ⟨k, s, rfl, rfl, hk, hs0, hs1, hS, hb2⟩ := hrel
            have hz2 := hb2.size
            have cr := Below.chain co hb2
            have c3r := (unhide KB wr cr).cell 3
            have hx1r := (cr.cell (p := ⟨gb, ob + i, none⟩) hgb).trans hx1
            by_cases hkn : k < n
            · obtain ⟨gx, ox, rfl, hgx, hcx⟩ := (unhide HXR).at_ (by rw [(unhide HMTT).1]; omega)
              have cx2 := hcx k (by rw [(unhide HMTT).1]; exact hkn)
              have hxr := (unhide HMTT).2 _ (nth_mem (k := k) (by rw [(unhide HMTT).1]; exact hkn))
              have hst : offTo F row (k + 1) = F.sub s (nth row k) := by rw [offTo, ← hS.out]
              obtain ⟨x, hx2⟩ : ∃ x, x = nth row k := ⟨_, rfl⟩
              rw [← hx2] at cx2 hxr hst
              have hsum := fun W (h : Below wo.heap.size wo W) => l03Sum_any w.heap.size F s x (F.p - 1) W ((unhide HPF).below (Below.chain co h)) ok hs0 (by omega) hxr.1 (by omega) (by omega) (by omega)
              have hls : lin (F.p - 1) F.p F.k s x = F.sub s x := lin_sign F.k s x
              rw [hls] at hsum
              have hDb := sub_bd ok s x
              obtain ⟨D, hD⟩ : ∃ D, D = F.sub s x := ⟨_, rfl⟩
              rw [← hD] at hsum hst hDb
              have HSUM := hide hsum
              have HS2 := Lib.hid hst
              have BX := hide (show ∀ W, Below wo.heap.size wo W → (Below wo.heap.size wo W ∧ W.cell? ⟨w.heap.size, 0, none⟩ = some (.int .i64 F.p) ∧ W.cell? ⟨w.heap.size, 3, none⟩ = some (.slice (some ⟨gb, ob, none⟩) m.length rc) ∧ W.cell? ⟨gb, ob + i, none⟩ = some (.slice (some ⟨gx, ox, none⟩) n cx) ∧ W.cell? ⟨gx, ox + k, none⟩ = some (.int .i64 x)) from fun W h => ⟨h, (unhide KB W (Below.chain co h)).cell 0, (unhide KB W (Below.chain co h)).cell 3, ((Below.chain co h).cell (p := ⟨gb, ob + i, none⟩) hgb).trans hx1, ((Below.chain co h).cell (p := ⟨gx, ox + k, none⟩) hgx).trans cx2⟩)
              clear hsum hst hD hls hx2 hcx
              go_upto_region 13 with fail
              refine wp_region_noPanic ?_
              refine wp_region_ord (S := (fun W => Below wo.heap.size wo W ∧ W.cell? ⟨w.heap.size, 0, none⟩ = some (.int .i64 F.p) ∧ W.cell? ⟨w.heap.size, 3, none⟩ = some (.slice (some ⟨gb, ob, none⟩) m.length rc) ∧ W.cell? ⟨gb, ob + i, none⟩ = some (.slice (some ⟨gx, ox, none⟩) n cx) ∧ W.cell? ⟨gx, ox + k, none⟩ = some (.int .i64 x))) [(true, 0), (true, 1), (true, 2), (true, 3), (true, 4), (true, 5), (true, 6), (true, 7), (true, 8), (true, 9), (true, 10), (true, 11), (true, 12), (true, 13), (false, 14), (true, 15)] (by kernel_rfl) (by kernel_rfl) (by kernel_rfl) rfl (fun _ _ _ _ _ h => h) ?_ (fun hHeld => ?_)
              · exact (unhide BX) _ hb2.drew
              refine SeqO.take (by rfl) (v := ?hv1) (by rfl) ?hy1 ?hr1
              case hy1 =>
                intro w hSw
                try dsimp only at hSw
                go_simp
                try (with_reducible rfl)
              try simp only [Act.put, List.setIfInBounds_toArray, List.set_cons_zero, List.set_cons_succ]
              refine SeqO.take (by rfl) (v := ?hv2) (by rfl) ?hy2 ?hr2
              case hy2 =>
                intro w hSw
                try dsimp only at hSw
                go_simp
                try (with_reducible rfl)
              try simp only [Act.put, List.setIfInBounds_toArray, List.set_cons_zero, List.set_cons_succ]
              refine SeqO.take (by rfl) (v := ?hv3) (by rfl) ?hy3 ?hr3
              case hy3 =>
                intro w hSw
                try dsimp only at hSw
                go_simp
                try (with_reducible rfl)
              try simp only [Act.put, List.setIfInBounds_toArray, List.set_cons_zero, List.set_cons_succ]
              refine SeqO.take (by rfl) (v := ?hv4) (by rfl) ?hy4 ?hr4
              case hy4 =>
                intro w hSw
                try dsimp only at hSw
                go_simp
                try (with_reducible rfl)
              try simp only [Act.put, List.setIfInBounds_toArray, List.set_cons_zero, List.set_cons_succ]
              refine SeqO.take (by rfl) (v := ?hv5) (by rfl) ?hy5 ?hr5
              case hy5 =>
                intro w hSw
                try dsimp only at hSw
                go_simp
                try (with_reducible rfl)
              try simp only [Act.put, List.setIfInBounds_toArray, List.set_cons_zero, List.set_cons_succ]
              refine SeqO.take (by rfl) (v := ?hv6) (by rfl) ?hy6 ?hr6
              case hy6 =>
                intro w hSw
                try dsimp only at hSw
                go_simp
                try (with_reducible rfl)
              try simp only [Act.put, List.setIfInBounds_toArray, List.set_cons_zero, List.set_cons_succ]
              refine SeqO.take (by rfl) (v := ?hv7) (by rfl) ?hy7 ?hr7
              case hy7 =>
                intro w hSw
                try dsimp only at hSw
                go_simp
                try (with_reducible rfl)
              try simp only [Act.put, List.setIfInBounds_toArray, List.set_cons_zero, List.set_cons_succ]
              refine SeqO.take (by rfl) (v := ?hv8) (by rfl) ?hy8 ?hr8
              case hy8 =>
                intro w hSw
                try dsimp only at hSw
                go_simp
                try (with_reducible rfl)
              try simp only [Act.put, List.setIfInBounds_toArray, List.set_cons_zero, List.set_cons_succ]
              refine SeqO.take (by rfl) (v := ?hv9) (by rfl) ?hy9 ?hr9
              case hy9 =>
                intro w hSw
                try dsimp only at hSw
                go_simp
                try (with_reducible rfl)
              try simp only [Act.put, List.setIfInBounds_toArray, List.set_cons_zero, List.set_cons_succ]
              refine SeqO.take (by rfl) (v := ?hv10) (by rfl) ?hy10 ?hr10
              case hy10 =>
                intro w hSw
                try dsimp only at hSw
                go_simp
                try (with_reducible rfl)
              try simp only [Act.put, List.setIfInBounds_toArray, List.set_cons_zero, List.set_cons_succ]
              refine SeqO.take (by rfl) (v := ?hv11) (by rfl) ?hy11 ?hr11
              case hy11 =>
                intro w hSw
                try dsimp only at hSw
                go_simp
                try (with_reducible rfl)
              try simp only [Act.put, List.setIfInBounds_toArray, List.set_cons_zero, List.set_cons_succ]
              refine SeqO.take (by rfl) (v := ?hv12) (by rfl) ?hy12 ?hr12
              case hy12 =>
                intro w hSw
                try dsimp only at hSw
                go_simp
                try (with_reducible rfl)
              try simp only [Act.put, List.setIfInBounds_toArray, List.set_cons_zero, List.set_cons_succ]
              refine SeqO.take (by rfl) (v := ?hv13) (by rfl) ?hy13 ?hr13
              case hy13 =>
                intro w hSw
                try dsimp only at hSw
                go_simp
                try (with_reducible rfl)
              try simp only [Act.put, List.setIfInBounds_toArray, List.set_cons_zero, List.set_cons_succ]
              refine SeqO.take (by rfl) (v := ?hv14) (by rfl) ?hy14 ?hr14
              case hy14 =>
                intro w hSw
                try dsimp only at hSw
                go_simp
                try (with_reducible rfl)
              try simp only [Act.put, List.setIfInBounds_toArray, List.set_cons_zero, List.set_cons_succ]
              refine SeqO.call (by rfl) (fun K hK => ?_)
              go_simp
              refine (unhide HSUM _ (And.left hHeld)).mono ?_
              rintro e w4 ⟨rfl, b4⟩
              have hB4 := Below.chain (And.left hHeld) b4
              go_wp2_with fail
              refine hK.out _ _ ?_ (fun hHeld => ?_)
              · exact (unhide BX) _ hB4
              clear hK K
              try simp only [Act.put, List.setIfInBounds_toArray, List.set_cons_zero, List.set_cons_succ]
              refine SeqO.take (by rfl) (v := ?hv15) (by rfl) ?hy15 ?hr15
              case hy15 =>
                intro w hSw
                try dsimp only at hSw
                go_simp
                try (with_reducible rfl)
              try simp only [Act.put, List.setIfInBounds_toArray, List.set_cons_zero, List.set_cons_succ]
              refine SeqO.done (NoPanic.normal ?_)
              go_wp2
              go_roundw
              case rel => exact ⟨k + 1, D, by go_num, rfl, by omega, hDb.1, hDb.2, HS2.out.symm, hB4⟩
              case measure => simp only [intOf]; omega
            · have hke : k = n := by omega
              have HK := Lib.hid hke
              have HX := Lib.hid (show extRow F row = row ++ [s] by rw [HXX.out, hS.out, hke])
              have hr2 := (unhide HXR).below cr
              have hmt1 := (unhide HMTT).1
              have hcl := l00Own_any ax cx row wr hr2
              rw [hmt1] at hcl
              have HCL := hide hcl
              have HM1 := Lib.hid hmt1
              clear hke hr2 hcl hmt1
              go_wp2_with fail
              refine (unhide HCL).mono ?_
              rintro e w6 ⟨v6, rfl, o6, b6⟩
              obtain ⟨a6, c6, rfl⟩ := o6.slice_val
              have z6 := b6.size
              have hb6 := hb2.trans (b6.mono hz2)
              go_wp2_with (first | (at_builtin; refine wpList_append_ints rfl (.tmp 57) (.tmp 59) rfl wr.heap.size (.slice a6 row.length c6) row [s] rfl (o6.alloc _) _ 1 1 rfl rfl (Rd.one w6 s _) (by simp; omega) (by simp; omega) ?_; intro v7 w7 o7 g7 hb7; obtain ⟨a7, c7, rfl⟩ := o7.slice_val; rw [show (row ++ [s]).length = row.length + 1 by simp] at o7 ⊢; have b67 := Below.step ((Below.refl wr.heap.size wr).trans (b6.alloc z6 _)) g7 (o6.alloc _) (Nat.le_refl _) (by simp; omega); have z7 := b67.size; have hH := ho.out.toH.belw (hb2.trans (b67.mono hz2)) (Nat.le_refl _)) | (at_builtin; refine wpList_append_row rfl (.tmp 51) (.tmp 61) rfl (v := u4) rfl (hH.belw ((Below.refl _ _).alloc (Nat.le_refl _) _) (Nat.le_trans hz2 z7)) _ rfl ((Blk.new w7 22 #[.slice a7 (row.length + 1) c7] rfl).cell 0) ((o7.mono hz2).alloc _) hsz (by simp; omega) (by rw [HSL.out]; omega) ?_; intro v8 w8 o8 g8 _))
              go_roundw
              case rel =>
                refine ⟨i + 1, by go_num, by omega, ?_, Below.stepS ((hb.trans ((hb2.trans (b67.mono hz2)).mono hsz)).alloc (by omega) _) g8 (hH.belw ((Below.refl _ _).alloc (Nat.le_refl _) _) (Nat.le_trans hz2 z7)).own (Nat.le_refl _) (by simp; omega)⟩
                show OwnS _ _ _ _
                rw [HST.out, HX.out]
                exact o8
              case measure => simp only [intOf]; omega
        · have hke : i = m.length := by omega
          have HK := Lib.hid hke
          clear hke
          have oE := ho.out
          rw [HK.out, extUp_all] at oE
          obtain ⟨E, hE⟩ : ∃ E, E = extM F m := ⟨_, rfl⟩
          rw [← hE] at oE
          have HR2 := Lib.hid (show r = (F.p, (F.k : Int), F.poly, E, 0) by rw [HRR.out, hE])
          obtain ⟨ea, ec, rfl, _⟩ := oE.form
          have hown := l18Own_any w.heap.size F wo ((unhide HPF).below co)
          have HOW := hide hown
          have OE := hide oE
          clear hown hE oE ho
          go_wp2_with fail
          refine (unhide HOW).mono ?_
          rintro e w4 ⟨v4, rfl, o4, b4⟩
          obtain ⟨a4, c4, rfl⟩ := o4.slice_val
          have cc4 := Below.chain co b4
          have bb4 := b0.trans (cc4.mono sk1)
          have kr4 := kr.below cc4 kr.lt
          have q4 := (unhide OE).below b4 (Nat.le_refl _)
          have zo := co.size
          have p3 : w.heap.size + 1 < w1.heap.size := by omega
          have p4 : w.heap.size + 1 < wo.heap.size := by omega
          have r0 := kr4.cell 0
          have r1 := kr4.cell 1
          have r2 := kr4.cell 2
          have r3 := kr4.cell 3
          have s0 := kr4.frozen 0
          have s1 := kr4.frozen 1
          have s2 := kr4.frozen 2
          have s3 := kr4.frozen 3
          go_wp2
          refine bodyPost_ret (results_cell_tmp_row rfl _ _ (w.heap.size + 1) 31 #[.int .i64 F.p, .int .i64 F.k, .slice a4 F.poly.length c4, .slice ea E.length ec] _ rfl (kr4.b4.store _ _ _ _) Try.underlying31 rfl (by kernel_rfl)) rfl ?_
          rw [HR2.out]
          refine ⟨_, _, rfl, ?_, ?_, Below.set4 bb4 (by omega) _ _ _ _⟩
          · exact ((((o4.storeBelow p4 _).storeBelow p4 _).storeBelow p4 _).storeBelow p4 _).mono (by omega)
          · exact ((((q4.storeBelow p3 _).storeBelow p3 _).storeBelow p3 _).storeBelow p3 _).mono (by omega)
end Go.Proofs.Ytcblhjhabhjbkaa

