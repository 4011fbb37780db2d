/-
  Walk: the columns of rows, the program's; a row that grows in its place.
-/
import Derived.BigQuiet
import Derived.Deep.DeepCutAuto
import Derived.Deep.DeepMust
import Derived.Deep.DrawnRows
import Derived.Deep.Draws
import Derived.Deep.OwnRows
import Derived.Deep.QuietTactic
import Derived.Deep.RegionHeld3
import Derived.Laws.Rows
import Derived.Lib.Hide
import Derived.Maps.AppendAt
import Derived.StillTailTactics
import Derived.Test.YtgmgpcaahanmiaaProg
import Derived.WalkKit
import Derived.WalkLawsBesides
import Derived.WalkSpells
import Derived.Test.YtgmgpcaahanmiaaZ1
import Derived.Test.YtgmgpcaahanmiaaZ2
import Derived.Test.YtgmgpcaahanmiaaZ7
set_option linter.unusedVariables false
set_option linter.unusedSimpArgs false
namespace Go.Proofs.Ytgmgpcaahanmiaa
open Go.RowKit
attribute [local go_sem ↓] Go.wp_at_zero Go.wp_at_succ

section
variable {w w' : World} {B g n c : Nat} {v v' : Value} {yss : List (List Int)} {ys : List Int}
/-- A row has grown, in its block or in a new one, and its new slice is stored. -/
theorem OwnS.appended (h : OwnS w B (.slice (some ⟨g, 0, none⟩) n c) yss) {j : Nat} (hj : j < yss.length) (hv : w.cell? ⟨g, j, none⟩ = some v) (ho : Own w' B v' ys) (hg : w.grownBy w' v.ownBlock) (hb : v'.ownBlock = v.ownBlock ∨ v'.ownBlock = some w.heap.size) :
    OwnS (w'.setCell ⟨g, j, none⟩ v') B (.slice (some ⟨g, 0, none⟩) n c) (yss.set j ys) := by
  have e := h.len
  subst e
  obtain ⟨hl, vs, hr, hin⟩ := h
  have hjl : j < vs.length := by rw [hin.1]; exact hj
  have hvj : vs[j]? = some v := by
    have := hr.cellAt j (by omega)
    rw [hv] at this
    exact this.symm
  have hov := hin.2.1 j v hvj
  have hne : ∀ k, v.ownBlock = some k → (Value.slice (some ⟨g, 0, none⟩) yss.length c).ownBlock ≠ some k := Own.notSliceBlock hr hov
  have hr' := hr.kept hg (by
    rcases hx : v.ownBlock with _ | k
    · right; simp [Value.ownBlock]
    · right
      intro e
      exact hne k hx e)
  obtain ⟨h1, h2⟩ := hr'.stored j v'
  have row : ∀ (x : Value) (B2 : Nat) (xs : List Int), Own w' B2 x xs → Own (w'.setCell ⟨g, j, none⟩ v') B2 x xs := fun x B2 xs hx => row_grow hr' h2 hx
  have old : ∀ (i : Nat) (x : Value), vs[i]? = some x → i ≠ j → Own w' B x (nthL yss i) := fun i x hx hij => (hin.2.1 i x hx).grow hg (by
    rcases hxb : x.ownBlock with _ | k
    · exact .inl rfl
    · exact .inr fun e => hin.2.2 i j x v k hij hx hvj hxb e.symm)
  refine ⟨by simpa using hl, vs.set j v', by rw [List.length_set]; exact h1, by simp [hin.1], fun i x hx => ?_, fun i k x y b hik hx hy hxb hyb => ?_⟩
  · by_cases e : i = j
    · subst e
      rw [List.getElem?_set_self hjl] at hx
      injection hx with hx
      subst hx
      rw [nthL_set_same hj]
      exact row _ _ _ ho
    · rw [List.getElem?_set_ne (Ne.symm e)] at hx
      rw [nthL_set_ne (Ne.symm e)]
      exact row _ _ _ (old i x hx e)
  · have cas : ∀ (q : Nat) (z : Value), (vs.set j v')[q]? = some z → (q = j ∧ z = v') ∨ (q ≠ j ∧ vs[q]? = some z) := fun q z hz => by
      by_cases e : q = j
      · subst e
        rw [List.getElem?_set_self hjl] at hz
        injection hz with hz
        exact .inl ⟨rfl, hz.symm⟩
      · rw [List.getElem?_set_ne (Ne.symm e)] at hz
        exact .inr ⟨e, hz⟩
    have far : ∀ (q : Nat) (z : Value), q ≠ j → vs[q]? = some z → z.ownBlock = some b → v'.ownBlock = some b → False := fun q z hq hz hzb hvb => by
      rcases hb with hb | hb
      · exact hin.2.2 q j z v b hq hz hvj hzb (by rw [← hb]; exact hvb)
      · rw [hb] at hvb
        injection hvb with hvb
        have := ((hin.2.1 q z hz).lt b hzb).2
        omega
    rcases cas i x hx with ⟨e1, e2⟩ | ⟨e1, e2⟩ <;> rcases cas k y hy with ⟨f1, f2⟩ | ⟨f1, f2⟩
    · omega
    · subst e2; exact far k y f1 f2 hyb hxb
    · subst f2; exact far i x e1 e2 hxb hyb
    · exact hin.2.2 i k x y b hik e2 f2 hxb hyb
end
theorem Own.slice_val {w : World} {B : Nat} {v : Value} {xs : List Int} (h : Own w B v xs) : ∃ a c, v = .slice a xs.length c := by
  obtain ⟨a, c, e, _⟩ := h.form
  exact ⟨a, c, e⟩
theorem OwnS.cell_grown {w w' : World} {B g n c : Nat} {v : Value} {yss : List (List Int)} (h : OwnS w B (.slice (some ⟨g, 0, none⟩) n c) yss) {j : Nat} (hj : j < yss.length) (hv : w.cell? ⟨g, j, none⟩ = some v) (hg : w.grownBy w' v.ownBlock) : w'.cell? ⟨g, j, none⟩ = some v ∧ w'.frozen? ⟨g, j, none⟩ = false := by
  have e := h.len
  subst e
  obtain ⟨hl, vs, hr, hin⟩ := h
  have hvj : vs[j]? = some v := by
    have := hr.cellAt j (by omega)
    rw [hv] at this
    exact this.symm
  have hne : ∀ k, v.ownBlock = some k → (Value.slice (some ⟨g, 0, none⟩) yss.length c).ownBlock ≠ some k := Own.notSliceBlock hr (hin.2.1 j v hvj)
  have hr' := hr.kept hg (by
    rcases hx : v.ownBlock with _ | k
    · right; simp [Value.ownBlock]
    · right
      intro e
      exact hne k hx e)
  exact ⟨by rw [hr'.cellAt j (by omega)]; exact hvj, hr'.frozenAt j⟩
/-- n lists of nothing. -/
theorem OwnS.nils (w : World) {B n : Nat} (hB : B ≤ w.heap.size) (hn : n ≤ 1000000) : OwnS (w.alloc (.cells (madeCells #[.slice none 0 0] n) 22)) B (.slice (some ⟨w.heap.size, 0, none⟩) n n) (List.replicate n []) :=
  OwnS.of_rowIs (vs := List.replicate n (.slice none 0 0)) (World.rowIs_made w _ _ _) hB (by simp) (by simp; omega) (fun i hi => by simp [hi])
    ⟨by simp, fun i x hx => by
      have hi := (List.getElem?_eq_some_iff.1 hx).1
      simp at hi
      simp [hi] at hx
      subst hx
      have e : nthL (List.replicate n ([] : List Int)) i = [] := by simp [nthL, hi]
      rw [e]
      exact Own.nil _ _, fun i j x y k hij hx hy hk => by
      have hi := (List.getElem?_eq_some_iff.1 hx).1
      simp at hi
      simp [hi] at hx
      subst hx
      simp [Value.ownBlock] at hk⟩
/-- The columns of the first i rows, and of k places of the next. -/
def colsIn (m : List (List Int)) (n i k : Nat) : List (List Int) := (List.range n).map fun j => ((m.take (if j < k then i + 1 else i)).map fun row => nth row j)
theorem colsIn_len (m : List (List Int)) (n i k : Nat) : (colsIn m n i k).length = n := by simp [colsIn]
theorem colsIn_nth (m : List (List Int)) {n j : Nat} (i k : Nat) (hj : j < n) : nthL (colsIn m n i k) j = (m.take (if j < k then i + 1 else i)).map fun row => nth row j := by simp [colsIn, nthL, hj]
theorem colsIn_zero (m : List (List Int)) (n : Nat) : colsIn m n 0 0 = List.replicate n [] := by
  apply List.ext_getElem (by simp [colsIn])
  intro i h1 h2
  simp [colsIn]
theorem colsIn_next (m : List (List Int)) (n i : Nat) : colsIn m n i n = colsIn m n (i + 1) 0 := by
  apply List.ext_getElem (by simp [colsIn])
  intro j h1 h2
  simp only [colsIn_len] at h1
  simp [colsIn, h1]
theorem colsIn_step {m : List (List Int)} {n i k : Nat} (hi : i < m.length) (hk : k < n) : colsIn m n i (k + 1) = (colsIn m n i k).set k (nthL (colsIn m n i k) k ++ [nth (nthL m i) k]) := by
  refine eq_of_nthL (by rw [List.length_set, colsIn_len, colsIn_len]) fun j hj => ?_
  rw [colsIn_len] at hj
  rw [colsIn_nth m i (k + 1) hj]
  by_cases e : j = k
  · subst e
    rw [nthL_set_same (by rw [colsIn_len]; exact hj), colsIn_nth m i j hj, if_pos (by omega), if_neg (by omega), take_nthL hi, List.map_append]
    rfl
  · rw [nthL_set_ne (Ne.symm e), colsIn_nth m i k hj]
    by_cases h : j < k
    · rw [if_pos (by omega), if_pos h]
    · rw [if_neg (by omega), if_neg h]
/-- The columns of rows. -/
def cols (m : List (List Int)) (n : Nat) : List (List Int) := (List.range n).map fun j => m.map fun row => nth row j
theorem cols_len (m : List (List Int)) (n : Nat) : (cols m n).length = n := by simp [cols]
theorem cols_nth (m : List (List Int)) {n j : Nat} (hj : j < n) : nthL (cols m n) j = m.map fun row => nth row j := by simp [cols, nthL, hj]
theorem colsIn_all (m : List (List Int)) (n : Nat) : colsIn m n m.length 0 = cols m n := by
  simp [colsIn, cols]

set_option maxRecDepth 100000 in
set_option maxHeartbeats 3200000 in
theorem columnsOf_any (ra : Option Addr) (rc : Nat) (m : List (List Int)) (n : Nat) (w : World) (hm : RdS w ra m) (hl : ∀ xs ∈ m, xs.length = n) (hn : n ≤ 1000000) (hmm : m.length ≤ 1000000) :
    Calls Try.prog 102 #[.slice ra m.length rc, .int .i64 n] w fun e w' => ∃ v, e = .returned v ∧ OwnS w' w.heap.size v (cols m n) ∧ Below w.heap.size w w' := by
  have hmk := fun W => run_make_row' (P := Try.prog) 35 22 (.slice none 0 0) 24 Try.underlying35 Try.info_row rfl .i64 .i64 n (by omega) (by omega) W
  have HMM := hide hm
  have HL := hide hl
  clear hm hl
  go_enter Try.func102, Try.ntmps102
  go_upto_region 2 with fail
  obtain ⟨W1, hW1⟩ : ∃ z, z = w.alloc (.cells (madeCells #[.slice none 0 0] n) 22) := ⟨_, rfl⟩
  have oz : OwnS W1 w.heap.size (.slice (some ⟨w.heap.size, 0, none⟩) n n) (colsIn m n 0 0) := by rw [hW1, colsIn_zero]; exact OwnS.nils w (Nat.le_refl _) hn
  have bz : Below w.heap.size w W1 := by rw [hW1]; exact (Below.refl _ _).alloc (Nat.le_refl _) _
  rw [← hW1]
  clear hW1
  have OZ := Lib.hid oz
  clear oz hmk
  go_wp2_with fail
  go_loopw [14] (fun iv wr => ∃ i : Nat, iv = .int .i64 i ∧ i ≤ m.length ∧ Hid (OwnS wr w.heap.size (.slice (some ⟨w.heap.size, 0, none⟩) n n) (colsIn m n i 0)) ∧ Below w.heap.size w wr) (fun iv _ => m.length - (intOf iv).toNat)
  case atStart => exact ⟨0, rfl, Nat.zero_le _, OZ, bz⟩
  case round =>
    obtain ⟨i, rfl, hi, ho, hb⟩ := hrel
    rename World => wo
    by_cases him : i < m.length
    · obtain ⟨gb, ob, rfl, hgb, hcc⟩ := (unhide HMM).at_ (by omega)
      obtain ⟨ai, ci, hr0, hrr⟩ := hcc i him
      have hll := unhide HL _ (nthL_mem him)
      rw [hll] at hr0
      have hr1 := (hb.cell (p := ⟨gb, ob + i, none⟩) hgb).trans hr0
      have HRR := hide hrr
      have HLL := Lib.hid hll
      clear hcc hrr hll hr0
      go_wp2_with fail
      go_loopw [20] (fun kv wr => ∃ k : Nat, kv = .int .i64 k ∧ k ≤ n ∧ Hid (OwnS wr w.heap.size (.slice (some ⟨w.heap.size, 0, none⟩) n n) (colsIn m n i k)) ∧ Below w.heap.size w wr) (fun kv _ => n - (intOf kv).toNat)
      case atStart => exact ⟨0, rfl, Nat.zero_le _, ho, hb⟩
      case round =>
        obtain ⟨k, rfl, hk, ho2, hb2⟩ := hrel
        have hz2 := hb2.size
        by_cases hkn : k < n
        · obtain ⟨gx, ox, rfl, hgx, hcx⟩ := (unhide HRR).at_ (by rw [HLL.out]; omega)
          have cx := hcx k (by rw [HLL.out]; exact hkn)
          have hst := colsIn_step (n := n) him hkn
          have hcl := colsIn_len m n i k
          obtain ⟨ar, cr, orow, hrow, _⟩ := ho2.out.row (i := k) (by rw [hcl]; exact hkn)
          have hcell := hrow _ _ _ _ rfl
          rw [Nat.zero_add] at hcell
          have hfz := ho2.out.frozen k
          have hrl : (nthL (colsIn m n i k) k).length ≤ 1000000 := by
            rw [colsIn_nth m i k hkn, List.length_map, List.length_take]
            omega
          obtain ⟨x, hx⟩ : ∃ x, x = nth (nthL m i) k := ⟨_, rfl⟩
          obtain ⟨row, hrw⟩ : ∃ row, row = nthL (colsIn m n i k) k := ⟨_, rfl⟩
          rw [← hx] at cx hst
          rw [← hrw] at hst orow hcell hrl
          have cx := (hb2.cell (p := ⟨gx, ox + k, none⟩) hgx).trans cx
          have HST := Lib.hid hst
          have OR := hide orow
          have HCL := Lib.hid hcl
          have HC := hide hcell
          have cal : ∀ o : Obj, o = .cells #[.int .i64 x] 2 → (wr.alloc o).cell? ⟨w.heap.size, k, none⟩ = some (.slice ar row.length cr) := fun o _ => (World.cell?_alloc_lt wr o ⟨w.heap.size, k, none⟩ (World.block_lt_of_cell? wr _ hcell)).trans hcell
          have CAL := hide cal
          clear cal
          have HFZ := hide hfz
          clear hst orow hcx hx hrw hrow hcl
          go_wp2_with (at_builtin; refine wpList_append_ints rfl (.tmp 30) (.tmp 32) rfl w.heap.size (.slice ar row.length cr) row [x] rfl ((unhide OR).alloc _) _ 1 1 rfl rfl (Rd.one wr x _) (by simp; omega) (by simp; omega) ?_; intro v5 w5 o5 g5 hb5; obtain ⟨a5, c5, rfl⟩ := o5.slice_val; have oA := ho2.out.alloc (.cells #[.int .i64 x] 2); have cA := (unhide CAL) _ rfl; have q5 := oA.cell_grown (j := k) (by rw [HCL.out]; exact hkn) cA g5; have qc := q5.1; have qf := q5.2)
          go_roundw
          case rel =>
            have oS := oA.appended (j := k) (by rw [HCL.out]; exact hkn) cA o5 g5 hb5
            rw [show (row ++ [x]).length = row.length + 1 by simp] at oS
            refine ⟨k + 1, by go_num, by omega, ?_, ((hb2.alloc (by omega) _).grown g5 (by simp; omega) (fun q hq => ((unhide OR).lt q hq).1)).setCell (Nat.le_refl _) _⟩
            show OwnS _ _ _ _
            rw [HST.out]
            exact oS
          case measure => simp only [intOf]; omega
        · have hke : k = n := by omega
          have HE := Lib.hid hke
          clear hke
          go_wp2_with fail
          go_roundw
          case rel =>
            refine ⟨i + 1, by go_num, by omega, ?_, hb2⟩
            show OwnS _ _ _ _
            have o := ho2.out
            rw [HE.out, colsIn_next] at o
            exact o
          case measure => simp only [intOf]; omega
    · have hke : i = m.length := by omega
      have HE := Lib.hid hke
      clear hke
      go_wp2_with fail
      go_ret
      exact ⟨_, rfl, by have h := ho.out; rw [HE.out, colsIn_all] at h; exact h, hb⟩
end Go.Proofs.Ytgmgpcaahanmiaa

