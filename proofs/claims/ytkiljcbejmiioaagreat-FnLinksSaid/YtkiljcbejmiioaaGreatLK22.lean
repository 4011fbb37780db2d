/-
  Texts joined.
-/
import Derived.Test.YtkiljcbejmiioaaGreatLK5
import Derived.Test.YtkiljcbejmiioaaGreatLK6
import Derived.Test.YtkiljcbejmiioaaGreatLK7
import Derived.Test.YtkiljcbejmiioaaGreatLK12
import Derived.Test.YtkiljcbejmiioaaGreatLK13
import Derived.Test.YtkiljcbejmiioaaGreatLK15
import Derived.Test.YtkiljcbejmiioaaGreatLK16
import Derived.Test.YtkiljcbejmiioaaGreatLK21
set_option linter.unusedVariables false
set_option linter.unusedSimpArgs false
set_option maxRecDepth 100000
set_option maxHeartbeats 40000000
namespace Go.Proofs.YtkiljcbejmiioaaGreat
open Go.RowKit
attribute [local go_sem ↓] Go.wp_at_zero Go.wp_at_succ
theorem codeOf_all (F : FD) (ap : Option Addr) (cp : Nat) (ra : Option Addr) (rc : Nat) (xss : List (List Int)) (n : Nat) (w : World) (hR : Rd w ap F.poly) (hG : F.Good) (hx : RdS w ra xss) (hM : F.Mat n xss) :
    Calls Tryz.prog 31 #[.agg #[.int .i64 F.p, .int .i64 F.k, .slice ap F.poly.length cp], .slice ra xss.length rc] w (ResC w (mkC F (form F xss n))) := by
 by_cases h0 : 0 < xss.length
 · exact codeOf_any F ap cp ra rc xss n w hR hG hx h0 hM
 · have hx0 : xss = [] := List.eq_nil_of_length_eq_zero (by omega)
   subst hx0
   have ok := hG.ok
   have HM := Lib.hid (show mkC F (form F [] n) = (0, 0, [], [], 6) by rw [form_nil]; rfl)
   obtain ⟨W0, hW0⟩ : ∃ W0, W0 = (w.alloc (.cells #[.int .i64 F.p, .int .i64 F.k, .slice ap F.poly.length cp] 30)).alloc (.cells #[.int .i64 0, .int .i64 0, .slice none 0 0, .slice none 0 0] 36) := ⟨_, rfl⟩
   have b0 : Below w.heap.size w W0 := by rw [hW0]; exact ((Below.refl _ _).alloc (Nat.le_refl _) _).alloc (by simp) _
   have kF : Blk W0 w.heap.size 30 #[.int .i64 F.p, .int .i64 F.k, .slice ap F.poly.length cp] := by rw [hW0]; exact (Blk.new _ _ _ rfl).alloc _
   have k0 : Blk W0 (w.heap.size + 1) 36 #[.int .i64 0, .int .i64 0, .slice none 0 0, .slice none 0 0] := by rw [hW0]; exact Blk.new _ _ _ (by simp)
   have s0 : w.heap.size + 1 < W0.heap.size := k0.lt
   have hT := tablesOf_any F ap cp W0 (hR.below b0) ok
   have HT := hide hT
   have HW := Lib.hid hW0
   have f0 := kF.cell 0
   have f1 := kF.cell 1
   have f2 := kF.cell 2
   clear hT hW0
   go_enter Tryz.func31, Tryz.ntmps31
   go_upto_region 1 with fail
   rw [← HW.out]
   go_wp2_with fail
   refine (unhide HT).mono ?_
   rintro e w1 ⟨tv, rfl, T1, b1⟩
   obtain ⟨aA, cA, aS, cS, aM, cM, aI, cI, rfl, _, _, _, _⟩ := T1
   have hb1 := b0.trans (b1.mono (by omega))
   have k1 := k0.below b1 k0.lt
   have z1 := b1.size
   clear f0 f1 f2
   go_wp2_with fail
   refine (reduce_nil F aA cA aS cS aM cM aI cI ra rc w1).mono ?_
   rintro e w2 ⟨v, u, dt, rfl, o2, _, b2⟩
   obtain ⟨ra2, rc2, rfl, _⟩ := o2.form
   have hb2 := hb1.trans (b2.mono (by omega))
   have k2 := k1.below b2 k1.lt
   have f0 := k2.cell 0
   have f1 := k2.cell 1
   have f2 := k2.cell 2
   have f3 := k2.cell 3
   have g0 := k2.frozen 0
   have g1 := k2.frozen 1
   have g2 := k2.frozen 2
   have g3 := k2.frozen 3
   go_wp2_with fail
   refine bodyPost_ret (results_cell_tmp_row rfl _ _ (w.heap.size + 1) 36 #[.int .i64 0, .int .i64 0, .slice none 0 0, .slice none 0 0] _ rfl (k2.b4.store _ _ _ _) Tryz.underlying36 rfl (by kernel_rfl)) rfl ?_
   rw [HM.out]
   exact ⟨_, _, rfl, OwnC.nil _ _, Below.set4 hb2 (by omega) _ _ _ _⟩
end Go.Proofs.YtkiljcbejmiioaaGreat
namespace Go.Proofs.YtkiljcbejmiioaaGreat
open Go.RowKit
attribute [local go_sem ↓] Go.wp_at_zero Go.wp_at_succ
def ResLLi (w : World) (r : List (List Int) × Int) (e : Ending) (w' : World) : Prop := ∃ v, e = .returned (.tuple #[v, .int .i64 r.2]) ∧ OwnS w' w.heap.size v r.1 ∧ Below w.heap.size w w'
end Go.Proofs.YtkiljcbejmiioaaGreat
namespace Go.Proofs.YtkiljcbejmiioaaGreat
open Go.RowKit
section
variable {F : FD}
def sumR (F : FD) (row : List Int) (k : Nat) : Int := F.sum (fun j => nth row j) k
def extE (F : FD) (row : List Int) : Int := F.sub 0 (sumR F row row.length)
def extRow (F : FD) (row : List Int) : List Int := row ++ [extE F row]
def extM (F : FD) (m : List (List Int)) : List (List Int) := m.map (extRow F)
theorem extRow_len (F : FD) (row : List Int) : (extRow F row).length = row.length + 1 := by simp [extRow]
theorem extRow_lt (F : FD) (row : List Int) {i : Nat} (h : i < row.length) : nth (extRow F row) i = nth row i := by
 rw [nth, nth, extRow, List.getD_eq_getElem?_getD, List.getElem?_append_left h, ← List.getD_eq_getElem?_getD]
theorem extM_len (F : FD) (m : List (List Int)) : (extM F m).length = m.length := by simp [extM]
theorem extM_nth (F : FD) (m : List (List Int)) {i : Nat} (h : i < m.length) : nthL (extM F m) i = extRow F (nthL m i) := by
 rw [nthL_lt (by rw [extM_len]; exact h), nthL_lt h]
 simp [extM]
theorem extM_Mat (ok : F.Ok) {n : Nat} {m : List (List Int)} (h : F.Mat n m) : F.Mat (n + 1) (extM F m) := by
 intro xs hx
 rw [extM, List.mem_map] at hx
 obtain ⟨row, hr, rfl⟩ := hx
 have := h row hr
 refine ⟨by rw [extRow_len, this.1], fun x hx => ?_⟩
 rw [extRow, List.mem_append, List.mem_singleton] at hx
 rcases hx with hx | rfl
 · exact this.2 x hx
 · exact sub_bd ok _ _
theorem ext_ech (ok : F.Ok) {n : Nat} {m : List (List Int)} {pv : List Nat} (h : Ech F n m pv) : Ech F (n + 1) (extM F m) pv := by
 have hr : ∀ j i, j < m.length → i < n → nth (nthL (extM F m) j) i = nth (nthL m j) i := fun j i hj hi => by
  rw [extM_nth F m hj, extRow_lt F _ (by rw [(Mat_nth h.mat hj).1]; exact hi)]
 refine ⟨extM_Mat ok h.mat, by rw [extM_len]; exact h.len, fun j hj => by have := h.lt j hj; omega, h.mono, fun i j hi hj => ?_, fun j i hj hi => ?_⟩
 · rw [hr i _ (by rw [← h.len]; exact hi) (h.lt j hj)]
   exact h.one i j hi hj
 · rw [hr j i (by rw [← h.len]; exact hj) (by have := h.lt j hj; omega)]
   exact h.lead j i hj hi
theorem GC.ext_fix {n : Nat} {m : List (List Int)} (h : GC F n m) : form F (extM F m) (n + 1) = extM F m ∧ mkC F (extM F m) = (F.p, (F.k : Int), F.poly, extM F m, 0) := by
 obtain ⟨pv, _, hE, _⟩ := form_ech h.good h.mat
 rw [h.fix] at hE
 refine ⟨(form_fix h.good (ext_ech h.good.ok hE)).1, ?_⟩
 have h1 := h.m1
 have h8 := h.m8
 have hc := h.cap
 unfold mkC
 rw [extM_len, if_neg (by omega), if_neg (by omega)]
def extTo (F : FD) (m : List (List Int)) (i : Nat) : List (List Int) := (m.take i).map (extRow F) ++ m.drop i
theorem extTo_len (F : FD) (m : List (List Int)) {i : Nat} (hi : i ≤ m.length) : (extTo F m i).length = m.length := by simp [extTo]; omega
theorem extTo_nth (F : FD) (m : List (List Int)) {i : Nat} (hi : i < m.length) : nthL (extTo F m i) i = nthL m i := by
 have hl : ((m.take i).map (extRow F)).length = i := by simp; omega
 rw [nthL, nthL, extTo, List.getD_eq_getElem?_getD, List.getElem?_append_right (by omega), hl, Nat.sub_self, List.getElem?_drop, Nat.add_zero, ← List.getD_eq_getElem?_getD]
theorem extTo_succ (F : FD) (m : List (List Int)) {i : Nat} (hi : i < m.length) : (extTo F m i).set i (extRow F (nthL m i)) = extTo F m (i + 1) := by
 have hl : ((m.take i).map (extRow F)).length = i := by simp; omega
 rw [extTo, List.set_append_right _ _ (by omega), hl, Nat.sub_self, extTo, take_nthL hi, List.map_append, List.append_assoc, List.drop_eq_getElem_cons hi]
 rfl
theorem extTo_zero (F : FD) (m : List (List Int)) : extTo F m 0 = m := by simp [extTo]
theorem extTo_all (F : FD) (m : List (List Int)) : extTo F m m.length = extM F m := by simp [extTo, extM]
end
end Go.Proofs.YtkiljcbejmiioaaGreat
namespace Go.Proofs.YtkiljcbejmiioaaGreat
open Go.RowKit
attribute [local go_sem ↓] Go.wp_at_zero Go.wp_at_succ
def extV (F : FD) (n : Nat) (m : List (List Int)) : Int × Int × List Int × List (List Int) × Int := if n = 32 then (0, 0, [], [], 5) else (F.p, F.k, F.poly, extM F m, 0)
def extRes (p d : Int) (xs : List Int) (m : List (List Int)) : Int × Int × List Int × List (List Int) × Int := if okC p d xs m = true then extV (fdR p d xs) (nthL m 0).length m else (0, 0, [], [], 1)
theorem implEX_any (p d : Int) (a : Option Addr) (c : Nat) (xs : List Int) (ra : Option Addr) (rc : Nat) (m : List (List Int)) (w : World) (hx : Rd w a xs) (hm : RdS w ra m) (ed : I64 d) : Calls Tryz.prog 14 #[.agg #[.int .i64 p, .int .i64 d, .slice a xs.length c, .slice ra m.length rc]] w (ResC w (extRes p d xs m)) := by
 have hml := hm.len
 generalize hR : extRes p d xs m = r
 obtain ⟨W0, hHW⟩ : ∃ z, z = (w.alloc (.cells #[.int .i64 p, .int .i64 d, .slice a xs.length c, .slice ra m.length rc] 36)).alloc (.cells #[.int .i64 0, .int .i64 0, .slice none 0 0, .slice none 0 0] 36) := ⟨_, rfl⟩
 have b0 : Below w.heap.size w W0 := by rw [hHW]; exact ((Below.refl _ _).alloc (Nat.le_refl _) _).alloc (by simp) _
 have k0 : Blk W0 w.heap.size 36 #[.int .i64 p, .int .i64 d, .slice a xs.length c, .slice ra m.length rc] := by rw [hHW]; exact (Blk.new _ _ _ rfl).alloc _
 have kr : Blk W0 (w.heap.size + 1) 36 #[.int .i64 0, .int .i64 0, .slice none 0 0, .slice none 0 0] := by rw [hHW]; exact Blk.new _ _ _ (by simp)
 have sk0 : w.heap.size + 1 < W0.heap.size := kr.lt
 have sk1 : w.heap.size ≤ W0.heap.size := by omega
 have HW := Lib.hid hHW
 clear hHW
 have hV := implVC_any p d a c xs ra rc m W0 (hx.below b0) (hm.below b0) ed
 cases hk : okC p d xs m with
 | false =>
  have HN := Lib.hid (show r = (0, 0, [], [], 1) by rw [← hR, extRes, hk]; rfl)
  rw [hk] at hV
  have HV := hide hV
  clear hV hk hR
  have f0 := k0.cell 0
  have f1 := k0.cell 1
  have f2 := k0.cell 2
  have f3 := k0.cell 3
  go_enter Tryz.func14, Tryz.ntmps14
  go_upto_region 1 with fail
  rw [← HW.out]
  go_wp2_with fail
  refine (unhide HV).mono ?_
  rintro e w1 ⟨rfl, b1⟩
  have k1 := k0.below b1 k0.lt
  have kr1 := kr.below b1 kr.lt
  clear f0 f1 f2 f3
  have f0 := k1.cell 0
  have f1 := k1.cell 1
  have f2 := k1.cell 2
  have f3 := k1.cell 3
  have bb1 := b0.trans (b1.mono sk1)
  have z1 := b1.size
  have r0 := kr1.cell 0
  have r1 := kr1.cell 1
  have r2 := kr1.cell 2
  have r3 := kr1.cell 3
  have s0 := kr1.frozen 0
  have s1 := kr1.frozen 1
  have s2 := kr1.frozen 2
  have s3 := kr1.frozen 3
  go_wp2
  refine bodyPost_ret (results_cell_tmp_row rfl _ _ (w.heap.size + 1) 36 #[.int .i64 0, .int .i64 0, .slice none 0 0, .slice none 0 0] _ rfl (kr1.b4.store _ _ _ _) Tryz.underlying36 rfl (by kernel_rfl)) rfl ?_
  rw [HN.out]
  exact ⟨_, _, rfl, OwnC.nil _ _, Below.set4 bb1 (by omega) _ _ _ _⟩
 | true =>
  obtain ⟨F, n, rfl, rfl, rfl, hC⟩ := okC_gc hk
  have ok := hC.good.ok
  obtain ⟨n2, n64⟩ := ok.n_bd
  have hm1 := hC.m1
  have hm0 : 0 < m.length := by omega
  have hm8 := hC.m8
  have hn1 := hC.n1
  have hn32 := hC.n32
  rw [hk] at hV
  have HV := hide hV
  have hRR : r = extV F n m := by rw [← hR, extRes, hk, fdR_eq, hC.hn]; rfl
  clear hV hk hR
  have hG := hC.good
  obtain ⟨hfix, hmk⟩ := hC.ext_fix
  have hL := fun W (h : Below W0.heap.size W0 W) => lengthOf_any F.p F.k a F.poly.length c ra rc m W ((hm.below b0).below h) hm1
  rw [hC.hn] at hL
  have HL := hide hL
  have KB := hide (show ∀ W, Below W0.heap.size W0 W → Blk W w.heap.size 36 #[.int .i64 F.p, .int .i64 F.k, .slice a F.poly.length c, .slice ra m.length rc] from fun W h => k0.below h k0.lt)
  rw [extV] at hRR
  by_cases hn0 : n = 32
  ·
   rw [if_pos hn0] at hRR
   have hbe : ((n : Int) == 32) = true := by rw [hn0]; rfl
   have HN := Lib.hid hRR
   clear hRR hn0 hC hfix hmk
   have f0 := k0.cell 0
   have f1 := k0.cell 1
   have f2 := k0.cell 2
   have f3 := k0.cell 3
   go_enter Tryz.func14, Tryz.ntmps14
   go_upto_region 1 with fail
   rw [← HW.out]
   go_wp2_with fail
   refine (unhide HV).mono ?_
   rintro e w1 ⟨rfl, b1⟩
   have k1 := k0.below b1 k0.lt
   have kr1 := kr.below b1 kr.lt
   clear f0 f1 f2 f3
   have f0 := k1.cell 0
   have f1 := k1.cell 1
   have f2 := k1.cell 2
   have f3 := k1.cell 3
   have bb1 := b0.trans (b1.mono sk1)
   have z1 := b1.size
   go_wp2_with fail
   refine (unhide HL w1 b1).mono ?_
   rintro e w2 ⟨rfl, b2⟩
   have c2 := Below.chain b1 b2
   have bb2 := b0.trans (c2.mono sk1)
   have k2 := unhide KB w2 c2
   have kr2 := kr.below c2 kr.lt
   clear f0 f1 f2 f3
   have f0 := k2.cell 0
   have f1 := k2.cell 1
   have f2 := k2.cell 2
   have f3 := k2.cell 3
   have r0 := kr2.cell 0
   have r1 := kr2.cell 1
   have r2 := kr2.cell 2
   have r3 := kr2.cell 3
   have s0 := kr2.frozen 0
   have s1 := kr2.frozen 1
   have s2 := kr2.frozen 2
   have s3 := kr2.frozen 3
   go_wp2
   refine bodyPost_ret (results_cell_tmp_row rfl _ _ (w.heap.size + 1) 36 #[.int .i64 0, .int .i64 0, .slice none 0 0, .slice none 0 0] _ rfl (kr2.b4.store _ _ _ _) Tryz.underlying36 rfl (by kernel_rfl)) rfl ?_
   rw [HN.out]
   exact ⟨_, _, rfl, OwnC.nil _ _, Below.set4 bb2 (by omega) _ _ _ _⟩
  ·
   rw [if_neg hn0, ← hmk] at hRR
   have hbe : ((n : Int) == 32) = false := by rw [beq_eq_false_iff_ne]; omega
   have hT := fun W (h : Below W0.heap.size W0 W) => tablesOf_any F a c W ((hx.below b0).below h) ok
   have hCP := fun W (h : Below W0.heap.size W0 W) => copyLists_any ra rc m W ((hm.below b0).below h)
   have hCO := fun b d W (h : Below W0.heap.size W0 W) (hy : RdS W b (extM F m)) => codeOf_all F a c b d (extM F m) (n + 1) W ((hx.below b0).below h) hG hy (extM_Mat ok hC.mat)
   rw [hfix] at hCO
   have hMT := fun i (hi : i < m.length) => Mat_nth hC.mat hi
   have HT := hide hT
   have HCP := hide hCP
   have HCO := hide hCO
   have HMT := hide hMT
   have HRR := Lib.hid hRR
   clear hRR hn0 hC hfix hmk hT hCP hCO hMT
   have f0 := k0.cell 0
   have f1 := k0.cell 1
   have f2 := k0.cell 2
   have f3 := k0.cell 3
   go_enter Tryz.func14, Tryz.ntmps14
   go_upto_region 1 with fail
   rw [← HW.out]
   go_wp2_with fail
   refine (unhide HV).mono ?_
   rintro e w1 ⟨rfl, b1⟩
   have k1 := k0.below b1 k0.lt
   have kr1 := kr.below b1 kr.lt
   clear f0 f1 f2 f3
   have f0 := k1.cell 0
   have f1 := k1.cell 1
   have f2 := k1.cell 2
   have f3 := k1.cell 3
   have bb1 := b0.trans (b1.mono sk1)
   have z1 := b1.size
   go_wp2_with fail
   refine (unhide HL w1 b1).mono ?_
   rintro e w2 ⟨rfl, b2⟩
   have c2 := Below.chain b1 b2
   have bb2 := b0.trans (c2.mono sk1)
   have k2 := unhide KB w2 c2
   have kr2 := kr.below c2 kr.lt
   clear f0 f1 f2 f3
   have f0 := k2.cell 0
   have f1 := k2.cell 1
   have f2 := k2.cell 2
   have f3 := k2.cell 3
   go_wp2_with fail
   refine (unhide HT w2 c2).mono ?_
   rintro e w3 ⟨tv, rfl, t3, b3⟩
   obtain ⟨aA, cA, aS, cS, aM, cM, aI, cI, rfl, t3A, t3S, t3M, t3I⟩ := t3
   obtain ⟨W4, hH4⟩ : ∃ z, z = w3.alloc (.cells #[.int .i64 F.n, .slice aA F.n cA, .slice aS F.n cS, .slice aM F.n cM, .slice aI F.n cI] 60) := ⟨_, rfl⟩
   have b4 : Below w3.heap.size w3 W4 := by rw [hH4]; exact (Below.refl _ _).alloc (Nat.le_refl _) _
   have kT : Blk W4 w3.heap.size 60 #[.int .i64 F.n, .slice aA F.n cA, .slice aS F.n cS, .slice aM F.n cM, .slice aI F.n cI] := by rw [hH4]; exact Blk.new _ _ _ rfl
   have H4 := Lib.hid hH4
   clear hH4
   have c4 := Below.chain (Below.chain c2 b3) b4
   have k4 := unhide KB W4 c4
   have TA := hide (t3A.below b4)
   have TS := hide (t3S.below b4)
   clear f0 f1 f2 f3 t3A t3S t3M t3I
   have f3 := k4.cell 3
   go_upto_region 6 with fail
   rw [← H4.out]
   go_wp2_with fail
   refine (unhide HCP W4 c4).mono ?_
   rintro e w5 ⟨v5, rfl, o5, b5⟩
   obtain ⟨gr, cr, rfl, hgr, hgr1, hcr, hcr2⟩ := o5.at_ hm0
   have c5 := Below.chain c4 b5
   have z45 := b5.size
   have kT5 := kT.below b5 kT.lt
   have KT5 := hide kT5
   rw [← extTo_zero F m] at o5
   have O5 := Lib.hid o5
   have hl0 := extTo_len F m (Nat.zero_le m.length)
   have hsk3 : w3.heap.size < W4.heap.size := kT.lt
   clear f3 o5 kT5
   rw [hl0] at *
   go_wp2_with fail
   go_loopw [27] (fun iv wr => ∃ i : Nat, iv = .int .i64 i ∧ i ≤ m.length ∧ Hid (OwnS wr W4.heap.size (.slice (some ⟨gr, 0, none⟩) m.length cr) (extTo F m i)) ∧ Below W4.heap.size W4 wr) (fun iv _ => m.length - (intOf iv).toNat)
   case atStart => exact ⟨0, rfl, Nat.zero_le _, O5, b5⟩
   case round =>
    obtain ⟨i, rfl, hi, ho, hb⟩ := hrel
    rename World => wo
    have hsz := hb.size
    by_cases hil : i < m.length
    · have hel := extTo_len F m hi
      obtain ⟨ax, cx, orow, hrow, _⟩ := ho.out.row (i := i) (by rw [hel]; exact hil)
      have hcell := hrow _ _ _ _ rfl
      rw [Nat.zero_add, extTo_nth F m hil] at hcell
      rw [extTo_nth F m hil] at orow
      have hfz := ho.out.frozen i
      have hmt := unhide HMT i hil
      have hst := extTo_succ F m hil
      obtain ⟨row, hrw⟩ : ∃ row, row = nthL m i := ⟨_, rfl⟩
      rw [← hrw] at hcell orow hmt hst
      have kk := (unhide KT5)
      have kTo := kT.below hb kT.lt
      have hrl : row.length ≤ 32 := by omega
      have TAo := hide ((unhide TA).below hb)
      have TSo := hide ((unhide TS).below hb)
      have HMTT := hide hmt
      have HEL := Lib.hid hel
      have HST := Lib.hid hst
      have OR := hide orow
      have g1 := kTo.cell 1
      clear hrw hmt hel hst orow
      go_wp2_with fail
      go_loopw [8, 34] (fun sv kv wr => ∃ (k s : Nat), kv = .int .i64 k ∧ sv = .int .i64 s ∧ k ≤ row.length ∧ s < F.n ∧ Hid ((s : Int) = sumR F row k) ∧ wo = wr) (fun _ kv _ => row.length - (intOf kv).toNat)
      case atStart => exact ⟨0, 0, rfl, rfl, Nat.zero_le _, by omega, rfl, rfl⟩
      case round =>
       obtain ⟨k, s, rfl, rfl, hk, hs, hS, rfl⟩ := hrel
       by_cases hkl : k < row.length
       · obtain ⟨gx, ox, rfl, _, hcx⟩ := (unhide OR).rd.at_ (by omega)
         have cx2 := hcx k hkl
         have hxr := (unhide HMTT).2 _ (nth_mem hkl)
         have hst : sumR F row (k + 1) = F.add s (nth row k) := by rw [hS.out]; rfl
         obtain ⟨x, hx2⟩ := Int.eq_ofNat_of_zero_le hxr.1
         rw [hx2] at cx2 hxr hst
         have hxn : x < F.n := by omega
         obtain ⟨bA, oA, ba, oa, ca, rfl, a1, a2⟩ := tab_at (unhide TAo) (i := s) (j := x) hs hxn
         have hDb := add_bd ok s x
         obtain ⟨D, hD⟩ := Int.eq_ofNat_of_zero_le hDb.1
         rw [hD] at a2 hst hDb
         have hDn : D < F.n := by omega
         have HS2 := Lib.hid hst
         clear hst hD hx2 hcx hxr hDb
         go_wp2
         go_roundw
         case rel => exact ⟨k + 1, D, by go_num, rfl, by omega, hDn, HS2.out.symm, trivial⟩
         case measure => simp only [intOf]; omega
       · have hke : k = row.length := by omega
         have HK := Lib.hid hke
         have hext : extRow F row = row ++ [F.sub 0 s] := by rw [extRow, extE, hS.out, hke]
         obtain ⟨bS, oS, bs, os, cs, rfl, s1, s2⟩ := tab_at (unhide TSo) (i := 0) (j := s) (by omega) hs
         rw [show ((0 : Nat) : Int) = 0 from rfl] at s2
         rw [Nat.add_zero] at s1
         obtain ⟨D, hD⟩ : ∃ D, D = F.sub 0 s := ⟨_, rfl⟩
         rw [← hD] at s2 hext
         have hn00 : 0 < F.n := by omega
         have g2 := kTo.cell 2
         have HX := Lib.hid hext
         have hgro : gr < wo.heap.size := World.block_lt_of_cell? wo _ hcell
         have cal : ∀ o : Obj, o = .cells #[.int .i64 D] 2 → (wo.alloc o).cell? ⟨gr, i, none⟩ = some (.slice ax row.length cx) := fun o _ => (World.cell?_alloc_lt wo o ⟨gr, i, none⟩ hgro).trans hcell
         have CAL := hide cal
         clear hke hD hext cal
         go_wp2_with (at_builtin; refine wpList_append_ints rfl (.tmp 49) (.tmp 57) rfl W4.heap.size (.slice ax row.length cx) row [D] rfl ((unhide OR).alloc _) _ 1 1 rfl rfl (Rd.one wo D _) (by simp; omega) (by simp; omega) ?_; intro v7 w7 o7 g7 hb7; obtain ⟨a7, c7, rfl⟩ := o7.slice_val; have oA := ho.out.alloc (.cells #[.int .i64 D] 2); have cA := (unhide CAL) _ rfl; have q7 := oA.cell_grown (j := i) (by rw [HEL.out]; exact hil) cA g7; have qc := q7.1; have qf := q7.2)
         go_roundw
         case rel =>
          have oS := oA.appended (j := i) (by rw [HEL.out]; exact hil) cA o7 g7 hb7
          rw [show (row ++ [D]).length = row.length + 1 by simp] at oS
          refine ⟨i + 1, by go_num, by omega, ?_, ((hb.alloc (by omega) _).grown g7 (by simp; omega) (fun q hq => ((unhide OR).lt q hq).1)).setCell hgr _⟩
          show OwnS _ _ _ _
          rw [← HST.out, HX.out]
          exact oS
         case measure => simp only [intOf]; omega
    · have hke : i = m.length := by omega
      have HK := Lib.hid hke
      clear hke
      have oE := ho.out
      rw [HK.out, extTo_all] at oE
      have hxl := extM_len F m
      obtain ⟨E, hE⟩ : ∃ E, E = extM F m := ⟨_, rfl⟩
      have hcd := unhide HCO (some ⟨gr, 0, none⟩) cr wo (Below.chain c4 hb) oE.rd
      rw [← hE] at hcd hxl
      rw [hxl] at hcd
      have HE := Lib.hid hE
      have HCD := hide hcd
      have cE := Below.chain c4 hb
      have kb := unhide KB wo cE
      have f0 := kb.cell 0
      have f1 := kb.cell 1
      have f2 := kb.cell 2
      have zE := cE.size
      have p3 : w.heap.size + 1 < wo.heap.size := by omega
      have HR2 := Lib.hid (show r = mkC F E by rw [HRR.out, HE.out])
      clear hcd oE ho hE hxl
      go_wp2_with fail
      refine (unhide HCD).mono ?_
      rintro e w8 ⟨v8, u8, rfl, o4, b8⟩
      have c8 := Below.chain cE b8
      have bb8 := b0.trans (c8.mono sk1)
      have kr8 := kr.below c8 kr.lt
      obtain ⟨qq, hqq⟩ : ∃ qq, qq = mkC F E := ⟨_, rfl⟩
      rw [← hqq] at o4 ⊢
      obtain ⟨rp, rd, rx, ry, rz⟩ := qq
      simp only [] at o4 ⊢
      obtain ⟨a4, c4, p4, d4, rfl, rfl, _, _⟩ := o4.form
      have HQ := Lib.hid hqq
      clear hqq
      have r0 := kr8.cell 0
      have r1 := kr8.cell 1
      have r2 := kr8.cell 2
      have r3 := kr8.cell 3
      have s0 := kr8.frozen 0
      have s1 := kr8.frozen 1
      have s2 := kr8.frozen 2
      have s3 := kr8.frozen 3
      go_wp2
      refine bodyPost_ret (results_cell_tmp_row rfl _ _ (w.heap.size + 1) 36 #[.int .i64 rp, .int .i64 rd, .slice a4 rx.length c4, .slice p4 ry.length d4] _ rfl (kr8.b4.store _ _ _ _) Tryz.underlying36 rfl (by kernel_rfl)) rfl ?_
      rw [HR2.out, ← HQ.out]
      refine ⟨_, _, rfl, ?_, Below.set4 bb8 (by omega) _ _ _ _⟩
      exact ((((o4.storeBelow p3 _).storeBelow p3 _).storeBelow p3 _).storeBelow p3 _).mono (by omega)
end Go.Proofs.YtkiljcbejmiioaaGreat
namespace Go.Proofs.YtkiljcbejmiioaaGreat
open Go.RowKit
attribute [local go_sem ↓] Go.wp_at_zero Go.wp_at_succ
def gram (F : FD) (m : List (List Int)) : List (List Int) := m.map fun r => m.map fun s => dotF F r s
def soV (F : FD) (m : List (List Int)) : Bool := (List.range m.length).all fun i => (List.range (i + 1)).all fun k => dotF F (nthL m i) (nthL m k) == 0
def soRes (p d : Int) (xs : List Int) (m : List (List Int)) : Bool := okC p d xs m && soV (fdR p d xs) m
theorem dotF_comm {F : FD} (ok : F.Ok) {xs ys : List Int} (h : xs.length = ys.length) : dotF F xs ys = dotF F ys xs := by
 rw [dotF, dotF, h]
 exact sum_congr fun j _ => mul_comm' ok _ _
theorem gram_so {F : FD} (ok : F.Ok) {n : Nat} {m : List (List Int)} (hM : F.Mat n m) : (!(gram F m).any fun r => !isZ r) = soV F m := by
 rw [Bool.eq_iff_iff, Bool.not_eq_true', List.any_eq_false, soV, List.all_eq_true]
 have key : ∀ i k, i < m.length → k < m.length → dotF F (nthL m i) (nthL m k) = dotF F (nthL m k) (nthL m i) := fun i k hi hk => dotF_comm ok (by rw [(Mat_nth hM hi).1, (Mat_nth hM hk).1])
 constructor
 · intro h i hi
   rw [List.mem_range] at hi
   rw [List.all_eq_true]
   intro k hk
   rw [List.mem_range] at hk
   have h1 := h (m.map fun s => dotF F (nthL m i) s) (List.mem_map.2 ⟨nthL m i, nthL_mem hi, rfl⟩)
   simp only [Bool.not_eq_true', Bool.not_eq_false, isZ] at h1
   have h2 : (m.map fun s => dotF F (nthL m i) s).any notZero = false := by simpa using h1
   rw [List.any_eq_false] at h2
   have h3 := h2 (dotF F (nthL m i) (nthL m k)) (List.mem_map.2 ⟨nthL m k, nthL_mem (by omega), rfl⟩)
   simpa [notZero] using h3
 · intro h r hr
   rw [gram, List.mem_map] at hr
   obtain ⟨x, hx, rfl⟩ := hr
   obtain ⟨i, hi, rfl⟩ := List.getElem_of_mem hx
   rw [← nthL_lt hi]
   have hz : (m.map fun s => dotF F (nthL m i) s).any notZero = false := by
    rw [List.any_eq_false]
    intro y hy
    rw [List.mem_map] at hy
    obtain ⟨z, hz, rfl⟩ := hy
    obtain ⟨k, hk, rfl⟩ := List.getElem_of_mem hz
    rw [← nthL_lt hk]
    have hik : dotF F (nthL m i) (nthL m k) = 0 := by
     by_cases hle : k ≤ i
     · have := h i (List.mem_range.2 hi)
       rw [List.all_eq_true] at this
       simpa using this k (List.mem_range.2 (by omega))
     · have := h k (List.mem_range.2 hk)
       rw [List.all_eq_true] at this
       rw [key i k hi hk]
       simpa using this i (List.mem_range.2 (by omega))
    simp [notZero, hik]
   simp [isZ, hz]
theorem products_any (F : FD) (a : Option Addr) (c : Nat) (ra : Option Addr) (rc : Nat) (m : List (List Int)) (n : Nat) (w : World) (hR : Rd w a F.poly) (hm : RdS w ra m) (hC : GC F n m) :
    Calls Tryz.prog 46 #[.agg #[.int .i64 F.p, .int .i64 F.k, .slice a F.poly.length c, .slice ra m.length rc]] w fun e w' => ∃ v, e = .returned v ∧ OwnS w' w.heap.size v (gram F m) ∧ Below w.heap.size w w' := by
 have hml := hm.len
 have ok := hC.good.ok
 have hm1 := hC.m1
 have hm0 : 0 < m.length := by omega
 have hm8 := hC.m8
 have hn1 := hC.n1
 have hn32 := hC.n32
 obtain ⟨W0, hHW⟩ : ∃ z, z = w.alloc (.cells #[.int .i64 F.p, .int .i64 F.k, .slice a F.poly.length c, .slice ra m.length rc] 36) := ⟨_, rfl⟩
 have b0 : Below w.heap.size w W0 := by rw [hHW]; exact (Below.refl _ _).alloc (Nat.le_refl _) _
 have k0 : Blk W0 w.heap.size 36 #[.int .i64 F.p, .int .i64 F.k, .slice a F.poly.length c, .slice ra m.length rc] := by rw [hHW]; exact Blk.new _ _ _ rfl
 have sk0 : w.heap.size < W0.heap.size := k0.lt
 have HW := Lib.hid hHW
 clear hHW
 obtain ⟨gb, ob, rfl, hgb, hcc⟩ := (hm.below b0).at_ hm0
 obtain ⟨ai, ci, hr0, _⟩ := hcc 0 hm0
 rw [Nat.add_zero, hC.hn] at hr0
 have hT := fun W (h : Below W0.heap.size W0 W) => tablesOf_any F a c W ((hR.below b0).below h) ok
 have hCO := fun W (h : Below W0.heap.size W0 W) => columnsOf_any (some ⟨gb, ob, none⟩) rc m n W ((hm.below b0).below h) (fun xs hx => (hC.mat xs hx).1) (by omega) (by omega)
 have hcl := cols_len m n
 have hcM := cols_Mat ok hC.mat
 have hcc2 := cols_cols hC.mat
 have hgr : prodTo F m (cols (cols m n) m.length) m.length = gram F m := by rw [hcc2, prodTo, List.take_length, gram]
 obtain ⟨cs, hcs⟩ : ∃ cs, cs = cols m n := ⟨_, rfl⟩
 rw [← hcs] at hCO hcl hcM hgr
 have hTI := fun tv ba bc W (h : Below W0.heap.size W0 W) hT (hy : RdS W ba cs) => times_any F tv (some ⟨gb, ob, none⟩) rc m ba bc cs n m.length W hT ok ((hm.below b0).below h) hy hC.mat hcM hcl (by omega) (by omega) (by omega) (by omega)
 rw [hgr] at hTI
 have HT := hide hT
 have HCO := hide hCO
 have HTI := hide hTI
 have BX := hide (show ∀ W, Below W0.heap.size W0 W → (Below W0.heap.size W0 W ∧ W.cell? ⟨w.heap.size, 0, none⟩ = some (.int .i64 F.p) ∧ W.cell? ⟨w.heap.size, 1, none⟩ = some (.int .i64 F.k) ∧ W.cell? ⟨w.heap.size, 2, none⟩ = some (.slice a F.poly.length c) ∧ W.cell? ⟨w.heap.size, 3, none⟩ = some (.slice (some ⟨gb, ob, none⟩) m.length rc) ∧ W.cell? ⟨gb, ob, none⟩ = some (.slice ai n ci)) from fun W h => ⟨h, (k0.below h k0.lt).cell 0, (k0.below h k0.lt).cell 1, (k0.below h k0.lt).cell 2, (k0.below h k0.lt).cell 3, (h.cell (p := ⟨gb, ob, none⟩) hgb).trans hr0⟩)
 clear hT hCO hTI hgr hcl hcM hcc2 hcs hcc hC
 go_enter Tryz.func46, Tryz.ntmps46
 go_upto_region 1 with fail
 rw [← HW.out]
 go_region_held3 (fun W => Below W0.heap.size W0 W ∧ W.cell? ⟨w.heap.size, 0, none⟩ = some (.int .i64 F.p) ∧ W.cell? ⟨w.heap.size, 1, none⟩ = some (.int .i64 F.k) ∧ W.cell? ⟨w.heap.size, 2, none⟩ = some (.slice a F.poly.length c) ∧ W.cell? ⟨w.heap.size, 3, none⟩ = some (.slice (some ⟨gb, ob, none⟩) m.length rc) ∧ W.cell? ⟨gb, ob, none⟩ = some (.slice ai n ci))
  (first | exact (unhide BX) _ (Below.refl _ _).drew | exact (unhide BX) _ (by assumption))
  (first
   | (go_at_call 27; refine (unhide HT _ ?_).mono ?_; exact And.left (by assumption); rintro e w2 ⟨tv, rfl, t2, b2⟩; have hB2 := Below.chain (a := W0) (And.left (by assumption)) b2; have hY := Below.refl w2.heap.size w2)
   | (go_at_call 74; refine (unhide HCO _ ?_).mono ?_; exact And.left (by assumption); rintro e w3 ⟨u, rfl, o3, b3⟩; obtain ⟨ax, cx, rfl, r3⟩ := o3.form; have hB2 := Below.chain (a := W0) (And.left (by assumption)) b3; have hX := b3)
   | (go_at_call 102; refine (unhide HTI tv ax cx _ hB2 (by first | exact t2 | exact t2.below b3) (by first | exact r3 | exact r3.below b2)).mono ?_; rintro e w4 ⟨u4, rfl, o4, b4⟩; have hB4 := Below.chain hB2 b4; have hZ := hB2.size))
 all_goals
  go_wp2
  go_ret
  exact ⟨_, rfl, o4.mono (by omega), b0.trans (hB4.mono (Nat.le_of_lt sk0))⟩
theorem so1_any (xa : Option Addr) (xc : Nat) (xs : List Int) (w : World) (hx : Rd w xa xs) : Calls Tryz.prog 49 #[.slice xa xs.length xc] w fun e w' => e = .returned (.bool (!isZ xs)) ∧ Below w.heap.size w w' := by
 have hz := isZero_any xa xc xs w hx
 generalize isZ xs = z at hz
 have HZ := hide hz
 clear hz
 go_enter Tryz.func49, Tryz.ntmps49
 go_wp2_with fail
 refine (unhide HZ).mono ?_
 rintro e w1 ⟨rfl, rfl⟩
 go_wp2
 go_ret
 exact ⟨rfl, Below.refl _ _⟩
theorem ent_so1 : ∀ (args : Array Value) (w : World), (callFunc 49 args).run Tryz.prog w = .ok (.enter 49 args) w := fun _ _ => by kernel_rfl
theorem implSO_any (p d : Int) (a : Option Addr) (c : Nat) (xs : List Int) (ra : Option Addr) (rc : Nat) (m : List (List Int)) (w : World) (hx : Rd w a xs) (hm : RdS w ra m) (ed : I64 d) : Calls Tryz.prog 19 #[.agg #[.int .i64 p, .int .i64 d, .slice a xs.length c, .slice ra m.length rc]] w (fun e w' => e = .returned (.bool (soRes p d xs m)) ∧ Below w.heap.size w w') := by
 have hml := hm.len
 generalize hR : soRes p d xs m = r
 obtain ⟨W0, hHW⟩ : ∃ z, z = w.alloc (.cells #[.int .i64 p, .int .i64 d, .slice a xs.length c, .slice ra m.length rc] 36) := ⟨_, rfl⟩
 have b0 : Below w.heap.size w W0 := by rw [hHW]; exact (Below.refl _ _).alloc (Nat.le_refl _) _
 have k0 : Blk W0 w.heap.size 36 #[.int .i64 p, .int .i64 d, .slice a xs.length c, .slice ra m.length rc] := by rw [hHW]; exact Blk.new _ _ _ rfl
 have sk0 : w.heap.size < W0.heap.size := k0.lt
 have HW := Lib.hid hHW
 clear hHW
 have hV := implVC_any p d a c xs ra rc m W0 (hx.below b0) (hm.below b0) ed
 cases hk : okC p d xs m with
 | false =>
  have HN := Lib.hid (show r = false by rw [← hR, soRes, hk]; rfl)
  rw [hk] at hV
  have HV := hide hV
  clear hV hk hR
  have f0 := k0.cell 0
  have f1 := k0.cell 1
  have f2 := k0.cell 2
  have f3 := k0.cell 3
  go_enter Tryz.func19, Tryz.ntmps19
  go_upto_region 1 with fail
  rw [← HW.out]
  go_wp2_with fail
  refine (unhide HV).mono ?_
  rintro e w1 ⟨rfl, b1⟩
  have k1 := k0.below b1 k0.lt
  clear f0 f1 f2 f3
  have f0 := k1.cell 0
  have f1 := k1.cell 1
  have f2 := k1.cell 2
  have f3 := k1.cell 3
  have bb1 := b0.trans (b1.mono (Nat.le_of_lt sk0))
  go_wp2
  go_ret
  exact ⟨ret_bool (by rw [HN.out]), bb1⟩
 | true =>
  obtain ⟨F, n, rfl, rfl, rfl, hC⟩ := okC_gc hk
  have ok := hC.good.ok
  obtain ⟨n2, n64⟩ := ok.n_bd
  have hm1 := hC.m1
  have hm0 : 0 < m.length := by omega
  have hm8 := hC.m8
  have hn1 := hC.n1
  have hn32 := hC.n32
  rw [hk] at hV
  have HV := hide hV
  have hRR : r = soV F m := by rw [← hR, soRes, hk, fdR_eq]; rfl
  clear hV hk hR
  have hP := fun W (h : Below W0.heap.size W0 W) => products_any F a c ra rc m n W ((hx.below b0).below h) ((hm.below b0).below h) hC
  have hgs := gram_so ok hC.mat
  have hCF := fun (xa : Option Addr) (xc : Nat) W (hr : RdS W xa (gram F m)) => hasL0 49 (fun r => !isZ r) xa xc (gram F m) W ent_so1 hr (fun k xi ci W' hk hrk hb => so1_any xi ci _ W' hrk)
  obtain ⟨G, hG⟩ : ∃ G, G = gram F m := ⟨_, rfl⟩
  rw [← hG] at hP hgs hCF
  rw [← hgs] at hRR
  generalize (G.any fun r => !isZ r) = z at hRR hCF
  have HP := hide hP
  have HCF := hide hCF
  have HRR := Lib.hid hRR
  clear hP hgs hCF hG hRR hC
  have f0 := k0.cell 0
  have f1 := k0.cell 1
  have f2 := k0.cell 2
  have f3 := k0.cell 3
  go_enter Tryz.func19, Tryz.ntmps19
  go_upto_region 1 with fail
  rw [← HW.out]
  go_wp2_with fail
  refine (unhide HV).mono ?_
  rintro e w1 ⟨rfl, b1⟩
  have k1 := k0.below b1 k0.lt
  clear f0 f1 f2 f3
  have f0 := k1.cell 0
  have f1 := k1.cell 1
  have f2 := k1.cell 2
  have f3 := k1.cell 3
  have bb1 := b0.trans (b1.mono (Nat.le_of_lt sk0))
  go_wp2_with fail
  refine (unhide HP w1 b1).mono ?_
  rintro e w2 ⟨u, rfl, o2, b2⟩
  obtain ⟨ax, cx, rfl, r2⟩ := o2.form
  have R2 := hide r2
  clear o2 r2
  go_wp2_with fail
  refine (unhide HCF ax cx w2 (unhide R2)).mono ?_
  rintro e w3 ⟨rfl, b3⟩
  go_wp2
  go_ret
  exact ⟨ret_bool (by rw [HRR.out]), (bb1.trans (b2.mono bb1.size)).trans (b3.mono (by have := bb1.size; have := b2.size; omega))⟩
end Go.Proofs.YtkiljcbejmiioaaGreat
namespace Go.Proofs.YtkiljcbejmiioaaGreat
open Go.RowKit
attribute [local go_sem ↓] Go.wp_at_zero Go.wp_at_succ
def encsTo (F : FD) (n : Nat) (m N : List (List Int)) (i : Nat) : List (List Int) := (N.take i).map fun msg => encTo F n m msg m.length
theorem encsTo_len (F : FD) (n : Nat) (m N : List (List Int)) {i : Nat} (hi : i ≤ N.length) : (encsTo F n m N i).length = i := by rw [encsTo, List.length_map, List.length_take]; omega
theorem encsTo_succ (F : FD) (n : Nat) (m N : List (List Int)) {i : Nat} (hi : i < N.length) : encsTo F n m N (i + 1) = encsTo F n m N i ++ [encTo F n m (nthL N i) m.length] := by rw [encsTo, encsTo, take_nthL hi, List.map_append]; rfl
theorem encsTo_Mat {F : FD} (ok : F.Ok) (n : Nat) (m N : List (List Int)) (i : Nat) : F.Mat n (encsTo F n m N i) := by
 intro xs hx
 rw [encsTo, List.mem_map] at hx
 obtain ⟨msg, _, rfl⟩ := hx
 exact ⟨encTo_len _ _ _ _ _, encTo_el ok _ _ _ _⟩
theorem gram_Mat {F : FD} (ok : F.Ok) (m : List (List Int)) : F.Mat m.length (gram F m) := by
 intro xs hx
 rw [gram, List.mem_map] at hx
 obtain ⟨r, _, rfl⟩ := hx
 refine ⟨by rw [List.length_map], fun x hx => ?_⟩
 rw [List.mem_map] at hx
 obtain ⟨s, _, rfl⟩ := hx
 exact dotF_bd ok _ _
theorem gram_len (F : FD) (m : List (List Int)) : (gram F m).length = m.length := by rw [gram, List.length_map]
def hullW (F : FD) (n : Nat) (m : List (List Int)) : List (List Int) := encsTo F n m (nul F (gram F m) m.length) (nul F (gram F m) m.length).length
def hullRes (p d : Int) (xs : List Int) (m : List (List Int)) : Int × Int × List Int × List (List Int) × Int := if okC p d xs m = true then mkC (fdR p d xs) (form (fdR p d xs) (hullW (fdR p d xs) (nthL m 0).length m) (nthL m 0).length) else (0, 0, [], [], 1)
theorem nul_len_le (F : FD) (m : List (List Int)) (n : Nat) : (nul F m n).length ≤ n := by
 have h1 := red_piv F (nulB F m n) n
 have h2 : (nulB F m n).length ≤ n := nulTo_le _ _ _ _ _
 have h3 := form_len F (nulB F m n) n
 rw [nul]
 omega
theorem implHU_any (p d : Int) (a : Option Addr) (c : Nat) (xs : List Int) (ra : Option Addr) (rc : Nat) (m : List (List Int)) (w : World) (hx : Rd w a xs) (hm : RdS w ra m) (ed : I64 d) : Calls Tryz.prog 18 #[.agg #[.int .i64 p, .int .i64 d, .slice a xs.length c, .slice ra m.length rc]] w (ResC w (hullRes p d xs m)) := by
 have hml := hm.len
 generalize hR : hullRes p d xs m = r
 obtain ⟨W0, hHW⟩ : ∃ z, z = (w.alloc (.cells #[.int .i64 p, .int .i64 d, .slice a xs.length c, .slice ra m.length rc] 36)).alloc (.cells #[.int .i64 0, .int .i64 0, .slice none 0 0, .slice none 0 0] 36) := ⟨_, rfl⟩
 have b0 : Below w.heap.size w W0 := by rw [hHW]; exact ((Below.refl _ _).alloc (Nat.le_refl _) _).alloc (by simp) _
 have k0 : Blk W0 w.heap.size 36 #[.int .i64 p, .int .i64 d, .slice a xs.length c, .slice ra m.length rc] := by rw [hHW]; exact (Blk.new _ _ _ rfl).alloc _
 have kr : Blk W0 (w.heap.size + 1) 36 #[.int .i64 0, .int .i64 0, .slice none 0 0, .slice none 0 0] := by rw [hHW]; exact Blk.new _ _ _ (by simp)
 have sk0 : w.heap.size + 1 < W0.heap.size := kr.lt
 have sk1 : w.heap.size ≤ W0.heap.size := by omega
 have HW := Lib.hid hHW
 clear hHW
 have hV := implVC_any p d a c xs ra rc m W0 (hx.below b0) (hm.below b0) ed
 cases hk : okC p d xs m with
 | false =>
  have HN := Lib.hid (show r = (0, 0, [], [], 1) by rw [← hR, hullRes, hk]; rfl)
  rw [hk] at hV
  have HV := hide hV
  clear hV hk hR
  have f0 := k0.cell 0
  have f1 := k0.cell 1
  have f2 := k0.cell 2
  have f3 := k0.cell 3
  go_enter Tryz.func18, Tryz.ntmps18
  go_upto_region 1 with fail
  rw [← HW.out]
  go_wp2_with fail
  refine (unhide HV).mono ?_
  rintro e w1 ⟨rfl, b1⟩
  have k1 := k0.below b1 k0.lt
  have kr1 := kr.below b1 kr.lt
  clear f0 f1 f2 f3
  have f0 := k1.cell 0
  have f1 := k1.cell 1
  have f2 := k1.cell 2
  have f3 := k1.cell 3
  have bb1 := b0.trans (b1.mono sk1)
  have z1 := b1.size
  have r0 := kr1.cell 0
  have r1 := kr1.cell 1
  have r2 := kr1.cell 2
  have r3 := kr1.cell 3
  have s0 := kr1.frozen 0
  have s1 := kr1.frozen 1
  have s2 := kr1.frozen 2
  have s3 := kr1.frozen 3
  go_wp2
  refine bodyPost_ret (results_cell_tmp_row rfl _ _ (w.heap.size + 1) 36 #[.int .i64 0, .int .i64 0, .slice none 0 0, .slice none 0 0] _ rfl (kr1.b4.store _ _ _ _) Tryz.underlying36 rfl (by kernel_rfl)) rfl ?_
  rw [HN.out]
  exact ⟨_, _, rfl, OwnC.nil _ _, Below.set4 bb1 (by omega) _ _ _ _⟩
 | true =>
  obtain ⟨F, n, rfl, rfl, rfl, hC⟩ := okC_gc hk
  have ok := hC.good.ok
  obtain ⟨n2, n64⟩ := ok.n_bd
  have hm1 := hC.m1
  have hm0 : 0 < m.length := by omega
  have hm8 := hC.m8
  have hn1 := hC.n1
  have hn32 := hC.n32
  rw [hk] at hV
  have HV := hide hV
  have hRR : r = mkC F (form F (hullW F n m) n) := by rw [← hR, hullRes, hk, fdR_eq, hC.hn]; rfl
  clear hV hk hR
  have hG := hC.good
  have hNM := nul_Mat ok (gram F m) m.length
  have hgM := gram_Mat ok m
  have hgl := gram_len F m
  have hNl := nul_len_le F (gram F m) m.length
  have hpa : prodTo F m m m.length = gram F m := by rw [prodTo, List.take_length, gram]
  have hhw : hullW F n m = encsTo F n m (nul F (gram F m) m.length) (nul F (gram F m) m.length).length := rfl
  obtain ⟨G, hGG⟩ : ∃ G, G = gram F m := ⟨_, rfl⟩
  rw [← hGG] at hNM hgM hgl hNl hpa hhw
  have hT := fun W (h : Below W0.heap.size W0 W) => tablesOf_any F a c W ((hx.below b0).below h) ok
  have hP := fun W (h : Below W0.heap.size W0 W) => products_any F a c ra rc m n W ((hx.below b0).below h) ((hm.below b0).below h) hC
  rw [← hGG] at hP
  have hNS : ∀ tv ga gc W (_ : Tabs W F tv) (_ : RdS W ga G), Calls Tryz.prog 45 #[tv, .slice ga G.length gc, .int .i64 m.length] W fun e w' => ∃ u, e = .returned u ∧ OwnS w' W.heap.size u (nul F G m.length) ∧ Below W.heap.size W w' := fun tv ga gc W hT hr => nullSpace_any F tv ga gc G m.length W hT hG hr (by omega) hgM hm1 (by omega)
  obtain ⟨N, hN⟩ : ∃ N, N = nul F G m.length := ⟨_, rfl⟩
  rw [← hN] at hNS hNM hNl hhw
  have hEN := fun tv (i : Nat) (hi : i < N.length) b cb W (h : Below W0.heap.size W0 W) (hT : Tabs W F tv) (hy : Rd W b (nthL N i)) => encode_any F tv ra rc m b cb (nthL N i) n W hT hG ((hm.below b0).below h) hy hm0 hC.mat hn1 hn32 (by rw [(Mat_nth hNM hi).1]; exact Nat.le_refl _) (Mat_nth hNM hi).2
  have hEN2 : ∀ tv (i : Nat) (_ : i < N.length) b cb W (_ : Below W0.heap.size W0 W) (_ : Tabs W F tv) (_ : Rd W b (nthL N i)), Calls Tryz.prog 47 #[tv, .slice ra m.length rc, .slice b m.length cb] W fun e w' => ∃ u, e = .returned u ∧ Own w' W.heap.size u (encTo F n m (nthL N i) m.length) ∧ Below W.heap.size W w' := fun tv i hi b cb W h hT hy => by
   have q := hEN tv i hi b cb W h hT hy
   rw [(Mat_nth hNM hi).1] at q
   exact q
  have hNL2 : ∀ i, i < N.length → (nthL N i).length = m.length := fun i hi => (Mat_nth hNM hi).1
  have heM := encsTo_Mat ok n m N N.length
  rw [hhw] at hRR
  obtain ⟨E, hE⟩ : ∃ E, E = encsTo F n m N N.length := ⟨_, rfl⟩
  rw [← hE] at hRR heM
  have hCO := fun b d W (h : Below W0.heap.size W0 W) (hy : RdS W b E) => codeOf_all F a c b d E n W ((hx.below b0).below h) hG hy heM
  have hEL := fun i => encTo_len F n m (nthL N i) m.length
  have HT := hide hT
  have HP := hide hP
  have HNS := hide hNS
  have HEN := hide hEN2
  have HNL := hide hNL2
  have HCO := hide hCO
  have HE := Lib.hid hE
  have HEL := hide hEL
  have HRR := Lib.hid hRR
  have BX := hide (show ∀ W, Below W0.heap.size W0 W → Blk W w.heap.size 36 #[.int .i64 F.p, .int .i64 F.k, .slice a F.poly.length c, .slice ra m.length rc] from fun W h => k0.below h k0.lt)
  clear hT hP hNS hEN hEN2 hNL2 hCO hE hN hGG hNM hgM hpa hhw hC hRR heM hgl hEL
  have f0 := k0.cell 0
  have f1 := k0.cell 1
  have f2 := k0.cell 2
  have f3 := k0.cell 3
  go_enter Tryz.func18, Tryz.ntmps18
  go_upto_region 1 with fail
  rw [← HW.out]
  go_wp2_with fail
  refine (unhide HV).mono ?_
  rintro e w1 ⟨rfl, b1⟩
  have k1 := k0.below b1 k0.lt
  have kr1 := kr.below b1 kr.lt
  clear f0 f1 f2 f3
  have f0 := k1.cell 0
  have f1 := k1.cell 1
  have f2 := k1.cell 2
  have f3 := k1.cell 3
  have bb1 := b0.trans (b1.mono sk1)
  have z1 := b1.size
  go_wp2_with fail
  refine (unhide HT _ b1).mono ?_
  rintro e w2 ⟨tv, rfl, t2, b2⟩
  obtain ⟨aA, cA, aS, cS, aM, cM, aI, cI, rfl, t2A, t2S, t2M, t2I⟩ := t2
  obtain ⟨W3, hH3⟩ : ∃ z, z = w2.alloc (.cells #[.int .i64 F.n, .slice aA F.n cA, .slice aS F.n cS, .slice aM F.n cM, .slice aI F.n cI] 60) := ⟨_, rfl⟩
  have b3 : Below w2.heap.size w2 W3 := by rw [hH3]; exact (Below.refl _ _).alloc (Nat.le_refl _) _
  have kT : Blk W3 w2.heap.size 60 #[.int .i64 F.n, .slice aA F.n cA, .slice aS F.n cS, .slice aM F.n cM, .slice aI F.n cI] := by rw [hH3]; exact Blk.new _ _ _ rfl
  have H3 := Lib.hid hH3
  clear hH3
  have t3 : Tabs W3 F (.agg #[.int .i64 F.n, .slice aA F.n cA, .slice aS F.n cS, .slice aM F.n cM, .slice aI F.n cI]) := ⟨aA, cA, aS, cS, aM, cM, aI, cI, rfl, t2A.below b3, t2S.below b3, t2M.below b3, t2I.below b3⟩
  have c3 := Below.chain (Below.chain b1 b2) b3
  have T3 := hide t3
  have KT := hide kT
  clear t3 t2A t2S t2M t2I f0 f1 f2 f3
  go_upto_region 5 with fail
  rw [← H3.out]
  have BR := hide (show ∀ W, Below W3.heap.size W3 W → (Below W3.heap.size W3 W ∧ (W.cell? ⟨w.heap.size, 0, none⟩ = some (.int .i64 F.p) ∧ W.cell? ⟨w.heap.size, 1, none⟩ = some (.int .i64 F.k) ∧ W.cell? ⟨w.heap.size, 2, none⟩ = some (.slice a F.poly.length c) ∧ W.cell? ⟨w.heap.size, 3, none⟩ = some (.slice ra m.length rc)) ∧ W.cell? ⟨w2.heap.size, 0, none⟩ = some (.int .i64 F.n) ∧ W.cell? ⟨w2.heap.size, 1, none⟩ = some (.slice aA F.n cA) ∧ W.cell? ⟨w2.heap.size, 2, none⟩ = some (.slice aS F.n cS) ∧ W.cell? ⟨w2.heap.size, 3, none⟩ = some (.slice aM F.n cM) ∧ W.cell? ⟨w2.heap.size, 4, none⟩ = some (.slice aI F.n cI)) from fun W h => by
   have k := unhide BX W (Below.chain c3 h)
   have kt := (unhide KT).below h (unhide KT).lt
   exact ⟨h, ⟨k.cell 0, k.cell 1, k.cell 2, k.cell 3⟩, kt.cell 0, kt.cell 1, kt.cell 2, kt.cell 3, kt.cell 4⟩)
  refine wp_region_noPanic ?_
  refine wp_region_ord (S := (fun W => Below W3.heap.size W3 W ∧ (W.cell? ⟨w.heap.size, 0, none⟩ = some (.int .i64 F.p) ∧ W.cell? ⟨w.heap.size, 1, none⟩ = some (.int .i64 F.k) ∧ W.cell? ⟨w.heap.size, 2, none⟩ = some (.slice a F.poly.length c) ∧ W.cell? ⟨w.heap.size, 3, none⟩ = some (.slice ra m.length rc)) ∧ W.cell? ⟨w2.heap.size, 0, none⟩ = some (.int .i64 F.n) ∧ W.cell? ⟨w2.heap.size, 1, none⟩ = some (.slice aA F.n cA) ∧ W.cell? ⟨w2.heap.size, 2, none⟩ = some (.slice aS F.n cS) ∧ W.cell? ⟨w2.heap.size, 3, none⟩ = some (.slice aM F.n cM) ∧ W.cell? ⟨w2.heap.size, 4, none⟩ = some (.slice aI F.n cI))) [(true, 0), (true, 1), (true, 3), (true, 4), (true, 5), (true, 8), (false, 2), (false, 6), (true, 7)] (by kernel_rfl) (by kernel_rfl) (by kernel_rfl) rfl (fun _ _ _ _ _ h => h) ?_ (fun hHeld => ?_)
  · exact (unhide BR) _ (Below.refl _ _).drew
  refine SeqO.take (by rfl) (v := ?hv1) (by rfl) ?hy1 ?hr1
  case hy1 =>
   intro w hSw
   try dsimp only at hSw
   go_simp
   try (with_reducible rfl)
  try simp only [Act.put, List.setIfInBounds_toArray, List.set_cons_zero, List.set_cons_succ]
  refine SeqO.take (by rfl) (v := ?hv2) (by rfl) ?hy2 ?hr2
  case hy2 =>
   intro w hSw
   try dsimp only at hSw
   go_simp
   try (with_reducible rfl)
  try simp only [Act.put, List.setIfInBounds_toArray, List.set_cons_zero, List.set_cons_succ]
  refine SeqO.take (by rfl) (v := ?hv3) (by rfl) ?hy3 ?hr3
  case hy3 =>
   intro w hSw
   try dsimp only at hSw
   go_simp
   try (with_reducible rfl)
  try simp only [Act.put, List.setIfInBounds_toArray, List.set_cons_zero, List.set_cons_succ]
  refine SeqO.take (by rfl) (v := ?hv4) (by rfl) ?hy4 ?hr4
  case hy4 =>
   intro w hSw
   try dsimp only at hSw
   go_simp
   try (with_reducible rfl)
  try simp only [Act.put, List.setIfInBounds_toArray, List.set_cons_zero, List.set_cons_succ]
  refine SeqO.take (by rfl) (v := ?hv5) (by rfl) ?hy5 ?hr5
  case hy5 =>
   intro w hSw
   try dsimp only at hSw
   go_simp
   try (with_reducible rfl)
  try simp only [Act.put, List.setIfInBounds_toArray, List.set_cons_zero, List.set_cons_succ]
  refine SeqO.take (by rfl) (v := ?hv6) (by rfl) ?hy6 ?hr6
  case hy6 =>
   intro w hSw
   try dsimp only at hSw
   go_simp
   try (with_reducible rfl)
  try simp only [Act.put, List.setIfInBounds_toArray, List.set_cons_zero, List.set_cons_succ]
  refine SeqO.call (by rfl) (fun K hK => ?_)
  go_simp
  refine (unhide HP _ (Below.chain c3 (And.left hHeld))).mono ?_
  rintro e w4 ⟨u4, rfl, o4, b4⟩
  obtain ⟨ga, gc, rfl, r4⟩ := o4.form
  have hB4 := Below.chain (And.left hHeld) b4
  go_wp2_with fail
  refine hK.out _ _ ?_ (fun hHeld => ?_)
  · exact (unhide BR) _ hB4
  clear hK K
  try simp only [Act.put, List.setIfInBounds_toArray, List.set_cons_zero, List.set_cons_succ]
  refine SeqO.call (by rfl) (fun K hK => ?_)
  go_simp
  refine (unhide HNS _ ga gc _ ((unhide T3).below hB4) r4).mono ?_
  rintro e w5 ⟨u5, rfl, o5, b5⟩
  obtain ⟨na, nc, rfl, r5⟩ := o5.form
  have hB5 := Below.chain hB4 b5
  go_wp2_with fail
  refine hK.out _ _ ?_ (fun hHeld => ?_)
  · exact (unhide BR) _ hB5
  clear hK K
  try simp only [Act.put, List.setIfInBounds_toArray, List.set_cons_zero, List.set_cons_succ]
  refine SeqO.take (by rfl) (v := ?hv7) (by rfl) ?hy7 ?hr7
  case hy7 =>
   intro w hSw
   try dsimp only at hSw
   go_simp
   try (with_reducible rfl)
  try simp only [Act.put, List.setIfInBounds_toArray, List.set_cons_zero, List.set_cons_succ]
  refine SeqO.done (NoPanic.normal ?_)
  have c5 := Below.chain c3 hB5
  have KB5 := hide (unhide BX w5 c5)
  have KT5 := hide ((unhide KT).below hB5 (unhide KT).lt)
  have T5 := hide ((unhide T3).below hB5)
  have R5 := hide r5
  have z5 := c5.size
  clear o4 o5 r4 r5
  go_wp2_with fail
  go_loopw [5, 23] (fun v iv wr => ∃ i : Nat, iv = .int .i64 i ∧ i ≤ N.length ∧ Hid (OwnS wr w5.heap.size v (encsTo F n m N i)) ∧ Below w5.heap.size w5 wr) (fun _ iv _ => N.length - (intOf iv).toNat)
  case atStart => exact ⟨0, rfl, Nat.zero_le _, OwnS.nil _ _, Below.refl _ _⟩
  case round =>
   obtain ⟨i, rfl, hi, ho, hb⟩ := hrel
   have hsz := hb.size
   by_cases hil : i < N.length
   · obtain ⟨gn, on, rfl, _, hcn⟩ := ((unhide R5).below hb).at_ (by omega)
     obtain ⟨ak, ck, h1, hrk⟩ := hcn i hil
     rw [unhide HNL i hil] at h1
     have hd := unhide HEN _ i hil ak ck wr (Below.chain c5 hb) ((unhide T5).below hb) hrk
     have hst := encsTo_succ F n m N hil
     have hsl := encsTo_len F n m N hi
     have hel := unhide HEL i
     obtain ⟨wd, hwd⟩ : ∃ wd, wd = encTo F n m (nthL N i) m.length := ⟨_, rfl⟩
     rw [← hwd] at hd hst hel
     have HD := hide hd
     have HST := Lib.hid hst
     have HSL := Lib.hid hsl
     have kk := (unhide KT5).below hb (unhide KT5).lt
     have kb := (unhide KB5).below hb (unhide KB5).lt
     have g0 := kk.cell 0
     have g1 := kk.cell 1
     have g2 := kk.cell 2
     have g3 := kk.cell 3
     have g4 := kk.cell 4
     have f3 := kb.cell 3
     clear hd hst hsl hwd hcn hrk hel
     go_wp2_with fail
     refine (unhide HD).mono ?_
     rintro e w6 ⟨v6, rfl, o6, b6⟩
     obtain ⟨a6, c6, rfl⟩ := o6.slice_val
     have hH := ho.out.toH.belw b6 (Nat.le_refl _)
     have hb6 := hb.trans (b6.mono hsz)
     have z6 := b6.size
     go_wp2_with (at_builtin; refine wpList_append_row rfl (.tmp 27) (.tmp 33) rfl (v := u5) rfl (hH.belw ((Below.refl _ _).alloc (Nat.le_refl _) _) z6) _ rfl ((Blk.new w6 28 #[.slice a6 wd.length c6] rfl).cell 0) (o6.alloc _) hsz (by simp; omega) (by rw [HSL.out]; omega) ?_; intro v7 w7 o7 g7 _)
     go_roundw
     case rel =>
      refine ⟨i + 1, by go_num, by omega, ?_, Below.stepS (hb6.alloc (by omega) _) g7 (hH.belw ((Below.refl _ _).alloc (Nat.le_refl _) _) z6).own (Nat.le_refl _) (by simp; omega)⟩
      show OwnS _ _ _ _
      rw [HST.out]
      exact o7
     case measure => simp only [intOf]; omega
   · have hke : i = N.length := by omega
     have HK := Lib.hid hke
     clear hke
     have oE := ho.out
     rw [HK.out, ← HE.out] at oE
     obtain ⟨ea, ec, rfl, rE⟩ := oE.form
     have cE := Below.chain c5 hb
     have hcd := unhide HCO ea ec wr cE rE
     have HCD := hide hcd
     have kb := (unhide KB5).below hb (unhide KB5).lt
     have f0 := kb.cell 0
     have f1 := kb.cell 1
     have f2 := kb.cell 2
     have zE := cE.size
     have p3 : w.heap.size + 1 < wr.heap.size := by omega
     clear hcd oE rE ho
     go_wp2_with fail
     refine (unhide HCD).mono ?_
     rintro e w8 ⟨v8, u8, rfl, o4, b8⟩
     have c8 := Below.chain cE b8
     have bb8 := b0.trans (c8.mono sk1)
     have kr8 := kr.below c8 kr.lt
     obtain ⟨qq, hqq⟩ : ∃ qq, qq = mkC F (form F E n) := ⟨_, rfl⟩
     rw [← hqq] at o4 ⊢
     obtain ⟨rp, rd, rx, ry, rz⟩ := qq
     simp only [] at o4 ⊢
     obtain ⟨a4, c4, p4, d4, rfl, rfl, _, _⟩ := o4.form
     have HQ := Lib.hid hqq
     clear hqq
     have r0 := kr8.cell 0
     have r1 := kr8.cell 1
     have r2 := kr8.cell 2
     have r3 := kr8.cell 3
     have s0 := kr8.frozen 0
     have s1 := kr8.frozen 1
     have s2 := kr8.frozen 2
     have s3 := kr8.frozen 3
     go_wp2
     refine bodyPost_ret (results_cell_tmp_row rfl _ _ (w.heap.size + 1) 36 #[.int .i64 rp, .int .i64 rd, .slice a4 rx.length c4, .slice p4 ry.length d4] _ rfl (kr8.b4.store _ _ _ _) Tryz.underlying36 rfl (by kernel_rfl)) rfl ?_
     rw [HRR.out, ← HQ.out]
     refine ⟨_, _, rfl, ?_, Below.set4 bb8 (by omega) _ _ _ _⟩
     exact ((((o4.storeBelow p3 _).storeBelow p3 _).storeBelow p3 _).storeBelow p3 _).mono (by omega)
end Go.Proofs.YtkiljcbejmiioaaGreat
namespace Go.Proofs.YtkiljcbejmiioaaGreat
open Go.RowKit
attribute [local go_sem ↓] Go.wp_at_zero Go.wp_at_succ
theorem fdOf_good {q : Int} (h : isField q = true) : (fdOf q).Good := by
 obtain ⟨ok, hq, hs⟩ := fdOf_ok h
 exact ⟨ok, by rw [hq]; exact hs⟩
end Go.Proofs.YtkiljcbejmiioaaGreat
namespace Go.Proofs.YtkiljcbejmiioaaGreat
open Go.RowKit
section
variable {F : FD}
def tk (msg : List Int) (k t : Nat) : List Int := (List.range k).map fun l => if l < t then nth msg l else 0
end
end Go.Proofs.YtkiljcbejmiioaaGreat
namespace Go.Proofs.YtkiljcbejmiioaaGreat
open Go.RowKit
section
variable {F : FD} {n : Nat} {m A : List (List Int)}
theorem FD.Good.okF (h : F.Good) : okF F.p F.k F.poly = true := by
 have ok := h.ok
 have hk := ok.k1
 have hk6 := ok.k6
 simp only [Go.Proofs.YtkiljcbejmiioaaGreat.okF, Bool.and_eq_true, inB_true, beq_iff_eq, List.all_eq_true]
 refine ⟨⟨ok.p2, ok.p64⟩, ⟨by omega, by omega⟩, by rw [ok.len]; omega, by rw [Int.toNat_natCast]; exact ok.one, by rw [Int.toNat_natCast, h.spl], fun x hx => ?_, ok.irr⟩
 have := ok.inR x hx
 exact ⟨this.1, by omega⟩
theorem GC.okC (h : GC F n m) : okC F.p F.k F.poly m = true := by
 have hM := h.mat
 rw [Go.Proofs.YtkiljcbejmiioaaGreat.okC, Bool.and_eq_true, Bool.and_eq_true, Bool.and_eq_true, decide_eq_true_eq, decide_eq_true_eq, decide_eq_true_eq, fdR_eq]
 refine ⟨?_, h.m8, h.cap, by rw [h.hn]; exact h.fix⟩
 rw [okM, Bool.and_eq_true]
 refine ⟨h.good.okF, ?_⟩
 rw [okR_true]
 refine ⟨h.m1, by have := h.m8; omega, by rw [h.hn]; exact h.n1, by rw [h.hn]; exact h.n32, fun r hr => ?_⟩
 rw [h.hn, Int.toNat_natCast, h.good.ok.n_eq]
 exact ⟨(hM r hr).1, elems_true.2 (hM r hr).2⟩
theorem mkC_gc (hG : F.Good) (hM : F.Mat n A) (n1 : 1 ≤ n) (n32 : n ≤ 32) (h : (mkC F (form F A n)).2.2.2.2 = 0) : GC F n (form F A n) ∧ mkC F (form F A n) = (F.p, (F.k : Int), F.poly, form F A n, 0) := by
 obtain ⟨pv, _, hE, _⟩ := form_ech hG hM
 rw [mkC] at h ⊢
 by_cases h0 : (form F A n).length = 0
 · rw [if_pos h0] at h; simp at h
 · rw [if_neg h0] at h ⊢
   by_cases h1 : 8 < (form F A n).length ∨ 4096 < capTo F.n 4096 (form F A n).length
   · rw [if_pos h1] at h; simp at h
   · rw [if_neg h1]
     exact ⟨⟨hG, by omega, by omega, n1, n32, (Mat_nth hE.mat (by omega)).1, hE.mat, by omega, (form_fix hG hE).1⟩, rfl⟩
theorem capTo_mono {b l : Int} (hb : 1 ≤ b) (hl : 0 ≤ l) : ∀ {i j : Nat}, i ≤ j → capTo b l j ≤ l → capTo b l i ≤ l := by
 intro i j hij h
 rcases Classical.em (capTo b l i ≤ l) with h1 | h1
 · exact h1
 · rw [capTo_stop h1 j hij] at h; exact h
theorem GC.mk_code (h : GC F n m) {n' : Nat} (hA : F.Mat n' A) (hl : A.length ≤ m.length) : (mkC F (form F A n')).2.2.2.2 = 0 ∨ mkC F (form F A n') = (0, 0, [], [], 6) := by
 have h1 : (form F A n').length ≤ m.length := by
  rw [form_len]
  have := red_piv F A n'
  omega
 have h8 := h.m8
 rw [mkC]
 by_cases h0 : (form F A n').length = 0
 · rw [if_pos h0]; exact .inr rfl
 · rw [if_neg h0, if_neg]
   · exact .inl rfl
   · have ok := h.good.ok
     have n2 := ok.n_bd
     have := capTo_mono (b := F.n) (l := 4096) (by omega) (by omega) h1 h.cap
     omega
end
end Go.Proofs.YtkiljcbejmiioaaGreat
namespace Go.Proofs.YtkiljcbejmiioaaGreat
open Go.RowKit
attribute [local go_sem ↓] Go.wp_at_zero Go.wp_at_succ
theorem l17Has_any (g : Nat) (F : FD) (ra : Option Addr) (rc : Nat) (m : List (List Int)) (b : Option Addr) (cb : Nat) (v : List Int) (n : Nat) (w : World) (hF : PF w g F) (hm : RdS w ra m) (hy : Rd w b v) (hC : GC F n m) (hvl : v.length = n) (hv : ∀ x ∈ v, 0 ≤ x ∧ x < F.n) :
    Calls Tryz.prog 34 #[.pointer (some ⟨g, 0, none⟩), .slice ra m.length rc, .slice b v.length cb] w fun e w' => e = .returned (.bool (decide ((form F (m ++ [v]) n).length = m.length))) ∧ Below w.heap.size w w' := by
 have hml := hm.len
 have hm1 := hC.m1
 have hm8 := hC.m8
 have hn1 := hC.n1
 have hMs := Mat_snoc hC.mat ⟨hvl, hv⟩
 have hcp := l17Own_any ra rc m w hm
 have hF1 := fun (a : Option Addr) (c : Nat) W (h : Below w.heap.size w W) (hx : RdS W a (m ++ [v])) => l17Form_any g F a c (m ++ [v]) n W (hF.below h) hC.good hx (by simp) hMs
 have hF2 := fun W (h : Below w.heap.size w W) => l17Form_any g F ra rc m n W (hF.below h) hC.good (hm.below h) hm1 hC.mat
 rw [hC.fix] at hF2
 have hfl : (form F (m ++ [v]) n).length ≤ 1073741824 := by
  have h1 := red_piv F (m ++ [v]) n
  have h2 := form_len F (m ++ [v]) n
  simp at h1
  omega
 obtain ⟨fm, hfm⟩ : ∃ fm, fm = form F (m ++ [v]) n := ⟨_, rfl⟩
 rw [← hfm] at hF1 hfl ⊢
 have hwl : (m ++ [v]).length = m.length + 1 := by simp
 rw [hwl] at hF1
 clear hwl
 have hvb : ∀ p, b = some p → p.block < w.heap.size := fun p hp => by
  obtain ⟨gb, ob, e, hgb, _⟩ := hy.at_ (by omega)
  rw [hp] at e
  injection e with e
  rw [e]
  exact hgb
 have HCP := hide hcp
 have HF1 := hide hF1
 have HF2 := hide hF2
 have HVB := hide hvb
 have HY := hide hy
 clear hcp hF1 hF2 hMs hfm hvb hy hm hF hC hv hvl
 go_enter Tryz.func34, Tryz.ntmps34
 go_wp2_with fail
 refine (unhide HCP).mono ?_
 rintro e w1 ⟨v1, rfl, o1, b1⟩
 obtain ⟨a1, c1, rfl, _⟩ := o1.form
 have z1 := b1.size
 have O1 := hide o1
 clear o1
 go_wp2_with (at_builtin; refine wpList_append_read rfl (.tmp 9) (.tmp 11) rfl rfl ((unhide O1).toH.belw ((Below.refl _ _).alloc (Nat.le_refl _) _) (Nat.le_refl _)) _ rfl ((Blk.new w1 28 #[.slice b v.length cb] rfl).cell 0) (((unhide HY).below b1).below ((Below.refl _ _).alloc (Nat.le_refl _) _)) (unhide HVB) (by simp; omega) (by omega) ?_; intro a2 c2 w2 r2 b2)
 have c2' : Below w.heap.size w w2 := (b1.alloc z1 _).trans b2
 refine (unhide HF1 a2 c2 w2 c2' r2).mono ?_
 rintro e w3 ⟨v3, rfl, o3, b3⟩
 obtain ⟨a3, c3, rfl, _⟩ := o3.form
 have c3' := c2'.trans (b3.mono c2'.size)
 go_wp2_with fail
 refine (unhide HF2 w3 c3').mono ?_
 rintro e w4 ⟨v4, rfl, o4, b4⟩
 obtain ⟨a4, c4, rfl, _⟩ := o4.form
 have c4' := c3'.trans (b4.mono c3'.size)
 clear o3 o4
 by_cases heq : fm.length = m.length
 · have hbe : ((fm.length : Int) == (m.length : Int)) = true := by rw [beq_iff_eq]; omega
   have hd := Lib.hid (show decide (fm.length = m.length) = true by rw [decide_eq_true_eq]; exact heq)
   have hbe2 : (fm.length == m.length) = true := by rw [beq_iff_eq]; omega
   clear heq
   go_wp2
   go_ret
   exact ⟨ret_bool (by rw [hd.out]), c4'⟩
 · have hbe : ((fm.length : Int) == (m.length : Int)) = false := by rw [beq_eq_false_iff_ne]; omega
   have hbe2 : (fm.length == m.length) = false := by rw [beq_eq_false_iff_ne]; omega
   have hd := Lib.hid (show decide (fm.length = m.length) = false by rw [decide_eq_false_iff_not]; exact heq)
   clear heq
   go_wp2
   go_ret
   exact ⟨ret_bool (by rw [hd.out]), c4'⟩
end Go.Proofs.YtkiljcbejmiioaaGreat
namespace Go.Proofs.YtkiljcbejmiioaaGreat
open Go.RowKit
theorem specCH_any (p d : Int) (a : Option Addr) (c : Nat) (xs : List Int) (ra : Option Addr) (rc : Nat) (m : List (List Int)) (b : Option Addr) (cb : Nat) (v : List Int) (w : World) (hx : Rd w a xs) (hm : RdS w ra m) (hy : Rd w b v) : Calls Tryz.prog 9 #[.agg #[.int .i64 p, .int .i64 d, .slice a xs.length c, .slice ra m.length rc], .slice b v.length cb] w fun e w' => e = .returned (.bool (hasRes p d xs m v)) ∧ Below w.heap.size w w' := by
 have hml := hm.len
 have hvl0 := hy.len
 generalize hR : hasRes p d xs m v = r
 obtain ⟨W0, hHW⟩ : ∃ z, z = w.alloc (.cells #[.int .i64 p, .int .i64 d, .slice a xs.length c, .slice ra m.length rc] 36) := ⟨_, rfl⟩
 have b0 : Below w.heap.size w W0 := by rw [hHW]; exact (Below.refl _ _).alloc (Nat.le_refl _) _
 have k0 : Blk W0 w.heap.size 36 #[.int .i64 p, .int .i64 d, .slice a xs.length c, .slice ra m.length rc] := by rw [hHW]; exact Blk.new _ _ _ rfl
 have sk0 : w.heap.size < W0.heap.size := k0.lt
 have HW := Lib.hid hHW
 clear hHW
 have hC0 : PC W0 w.heap.size p d a c xs ra rc m := ⟨⟨k0.cell 0, k0.cell 1, k0.cell 2, hx.below b0⟩, k0.cell 3, hm.below b0⟩
 have hV := l18Ok_any w.heap.size p d a c xs ra rc m W0 hC0
 cases hk : okC p d xs m with
 | false =>
  have HN := Lib.hid (show r = false by rw [← hR, hasRes, hk]; rfl)
  rw [hk] at hV
  have HV := hide hV
  clear hV hk hR hC0
  have f0 := k0.cell 0
  have f1 := k0.cell 1
  have f2 := k0.cell 2
  have f3 := k0.cell 3
  go_enter Tryz.func9, Tryz.ntmps9
  go_upto_region 1 with fail
  rw [← HW.out]
  go_wp2_with fail
  refine (unhide HV).mono ?_
  rintro e w1 ⟨rfl, b1⟩
  have k1 := k0.below b1 k0.lt
  clear f0 f1 f2 f3
  have f0 := k1.cell 0
  have f1 := k1.cell 1
  have f2 := k1.cell 2
  have f3 := k1.cell 3
  have bb1 := b0.trans (b1.mono (Nat.le_of_lt sk0))
  go_wp2
  go_ret
  exact ⟨ret_bool (by rw [HN.out]), bb1⟩
 | true =>
  obtain ⟨F, n, rfl, rfl, rfl, hC⟩ := okC_gc hk
  have ok := hC.good.ok
  obtain ⟨n2, n64⟩ := ok.n_bd
  have hm1 := hC.m1
  have hm0 : 0 < m.length := by omega
  have hRR : r = if v.length = n ∧ elems F.n v = true then decide ((form F (m ++ [v]) n).length = m.length) else false := by rw [← hR, hasRes, hk, fdR_eq, hC.hn]; rfl
  obtain ⟨gb, ob, ai, ci, rfl, hr0, hgb⟩ := hC0.row0 hm1
  rw [hC.hn] at hr0
  rw [hk] at hV
  have HV := hide hV
  clear hV hk hR
  by_cases hle : v.length = n
  ·
   have hbq : ((v.length : Int) != (n : Int)) = false := by rw [hle]; simp
   have hE := fun W (h : Below W0.heap.size W0 W) => l17Vector_any w.heap.size F b cb v W (hC0.below h).1.pf ok ((hy.below b0).below h)
   cases he : elems F.n v with
   | false =>
    have HN := Lib.hid (show r = false by rw [hRR, if_neg (by rw [he]; simp)])
    rw [he] at hE
    have HE := hide hE
    clear hE he hRR hle hC hC0
    have f0 := k0.cell 0
    have f1 := k0.cell 1
    have f2 := k0.cell 2
    have f3 := k0.cell 3
    go_enter Tryz.func9, Tryz.ntmps9
    go_upto_region 1 with fail
    rw [← HW.out]
    go_wp2_with fail
    refine (unhide HV).mono ?_
    rintro e w1 ⟨rfl, b1⟩
    have k1 := k0.below b1 k0.lt
    clear f0 f1 f2 f3
    have f0 := k1.cell 0
    have f1 := k1.cell 1
    have f2 := k1.cell 2
    have f3 := k1.cell 3
    have bb1 := b0.trans (b1.mono (Nat.le_of_lt sk0))
    have hr1 := (b1.cell (p := ⟨gb, ob, none⟩) hgb).trans hr0
    go_wp2_with fail
    refine (unhide HE w1 b1).mono ?_
    rintro e w2 ⟨rfl, q2⟩
    have c2 := b1.trans (q2.below _)
    have bb2 := b0.trans (c2.mono (Nat.le_of_lt sk0))
    have k2 := k0.below c2 k0.lt
    clear f0 f1 f2 f3
    have f0 := k2.cell 0
    have f1 := k2.cell 1
    have f2 := k2.cell 2
    have f3 := k2.cell 3
    go_wp2
    go_ret
    exact ⟨ret_bool (by rw [HN.out]), bb2⟩
   | true =>
    have hEl := elems_iff he
    have hH := fun W (h : Below W0.heap.size W0 W) => l17Has_any w.heap.size F (some ⟨gb, ob, none⟩) rc m b cb v n W (hC0.below h).1.pf (hC0.below h).2.2 ((hy.below b0).below h) hC hle hEl
    rw [if_pos ⟨hle, he⟩] at hRR
    rw [he] at hE
    have HE := hide hE
    have HH := hide hH
    have HRR := Lib.hid hRR
    clear hE he hRR hle hC hC0 hH hEl
    have f0 := k0.cell 0
    have f1 := k0.cell 1
    have f2 := k0.cell 2
    have f3 := k0.cell 3
    go_enter Tryz.func9, Tryz.ntmps9
    go_upto_region 1 with fail
    rw [← HW.out]
    go_wp2_with fail
    refine (unhide HV).mono ?_
    rintro e w1 ⟨rfl, b1⟩
    have k1 := k0.below b1 k0.lt
    clear f0 f1 f2 f3
    have f0 := k1.cell 0
    have f1 := k1.cell 1
    have f2 := k1.cell 2
    have f3 := k1.cell 3
    have bb1 := b0.trans (b1.mono (Nat.le_of_lt sk0))
    have hr1 := (b1.cell (p := ⟨gb, ob, none⟩) hgb).trans hr0
    go_wp2_with fail
    refine (unhide HE w1 b1).mono ?_
    rintro e w2 ⟨rfl, q2⟩
    have c2 := b1.trans (q2.below _)
    have bb2 := b0.trans (c2.mono (Nat.le_of_lt sk0))
    have k2 := k0.below c2 k0.lt
    clear f0 f1 f2 f3
    have f0 := k2.cell 0
    have f1 := k2.cell 1
    have f2 := k2.cell 2
    have f3 := k2.cell 3
    go_wp2_with fail
    refine (unhide HH w2 c2).mono ?_
    rintro e w3 ⟨rfl, b3⟩
    go_wp2
    go_ret
    exact ⟨ret_bool (by rw [HRR.out]), bb2.trans (b3.mono bb2.size)⟩
  · have hbq : ((v.length : Int) != (n : Int)) = true := by rw [bne_iff_ne]; omega
    have HN := Lib.hid (show r = false by rw [hRR, if_neg (fun h => hle h.1)])
    clear hle hRR hC hC0
    have f0 := k0.cell 0
    have f1 := k0.cell 1
    have f2 := k0.cell 2
    have f3 := k0.cell 3
    go_enter Tryz.func9, Tryz.ntmps9
    go_upto_region 1 with fail
    rw [← HW.out]
    go_wp2_with fail
    refine (unhide HV).mono ?_
    rintro e w1 ⟨rfl, b1⟩
    have k1 := k0.below b1 k0.lt
    clear f0 f1 f2 f3
    have f0 := k1.cell 0
    have f1 := k1.cell 1
    have f2 := k1.cell 2
    have f3 := k1.cell 3
    have bb1 := b0.trans (b1.mono (Nat.le_of_lt sk0))
    have hr1 := (b1.cell (p := ⟨gb, ob, none⟩) hgb).trans hr0
    go_wp2
    go_ret
    exact ⟨ret_bool (by rw [HN.out]), bb1⟩
end Go.Proofs.YtkiljcbejmiioaaGreat
