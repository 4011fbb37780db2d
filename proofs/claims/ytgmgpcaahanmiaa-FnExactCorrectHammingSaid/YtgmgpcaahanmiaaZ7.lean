/-
  Plain mathematics: rows reduced to the echelon form.
-/
import Derived.BigQuiet
import Derived.Deep.DeepCutAuto
import Derived.Deep.DeepMust
import Derived.Deep.DrawnRows
import Derived.Deep.Draws
import Derived.Deep.OwnRows
import Derived.Deep.QuietTactic
import Derived.Deep.RegionHeld3
import Derived.Laws.Rows
import Derived.Lib.Hide
import Derived.Maps.AppendAt
import Derived.StillTailTactics
import Derived.Test.YtgmgpcaahanmiaaProg
import Derived.WalkKit
import Derived.WalkLawsBesides
import Derived.WalkSpells
import Derived.Test.YtgmgpcaahanmiaaZ1
import Derived.Test.YtgmgpcaahanmiaaZ2
import Derived.Test.YtgmgpcaahanmiaaZ4
import Derived.Test.YtgmgpcaahanmiaaZ5
import Derived.Test.YtgmgpcaahanmiaaZ6
set_option linter.unusedVariables false
set_option linter.unusedSimpArgs false
namespace Go.Proofs.Ytgmgpcaahanmiaa
open Go.RowKit

/-- Rows of a length over a field. -/
def FD.Mat (F : FD) (n : Nat) (xss : List (List Int)) : Prop := ∀ xs ∈ xss, xs.length = n ∧ ∀ x ∈ xs, 0 ≤ x ∧ x < F.n
/-- The first row from t on that is not zero at c, or the number of rows. -/
def pivAt (rows : List (List Int)) (c t : Nat) : Nat := ((List.range rows.length).find? (fun i => decide (t ≤ i) && (nth (nthL rows i) c != 0))).getD rows.length
theorem pivAt_hit {rows : List (List Int)} {c t i : Nat} (h1 : t ≤ i) (h2 : i < rows.length) (h3 : nth (nthL rows i) c ≠ 0) (h4 : ∀ j, t ≤ j → j < i → nth (nthL rows j) c = 0) : pivAt rows c t = i := by
  have : (List.range rows.length).find? (fun i => decide (t ≤ i) && (nth (nthL rows i) c != 0)) = some i := by
    rw [List.find?_range_eq_some]
    refine ⟨by simp [h1, h3], List.mem_range.2 h2, fun j hj => ?_⟩
    by_cases h : t ≤ j
    · simp [h4 j h hj]
    · simp [h]
  rw [pivAt, this]; rfl
theorem pivAt_none {rows : List (List Int)} {c t : Nat} (h : ∀ j, t ≤ j → j < rows.length → nth (nthL rows j) c = 0) : pivAt rows c t = rows.length := by
  have : (List.range rows.length).find? (fun i => decide (t ≤ i) && (nth (nthL rows i) c != 0)) = none := by
    rw [List.find?_eq_none]
    intro j hj
    by_cases ht : t ≤ j
    · simp [h j ht (List.mem_range.1 hj)]
    · simp [ht]
  rw [pivAt, this]; rfl
section
variable (F : FD) (c t : Nat)
def elimTo (rows : List (List Int)) : Nat → List (List Int)
  | 0 => rows
  | j + 1 => if j = t then elimTo rows j else (elimTo rows j).set j (less F (nthL rows j) (nthL rows t) (nth (nthL rows j) c))
/-- The row at i scaled, brought to t, the others lessened. -/
def topped (rows : List (List Int)) (i : Nat) : List (List Int) := (rows.set i (nthL rows t)).set t (scale F (F.inv (nth (nthL rows i) c)) (nthL rows i))
def redOne (rows : List (List Int)) (i : Nat) : List (List Int) := elimTo F c t (topped F c t rows i) rows.length
end
def stepR (F : FD) (s : List (List Int) × List Int) (c : Nat) : List (List Int) × List Int :=
  if s.2.length < s.1.length ∧ pivAt s.1 c s.2.length < s.1.length then (redOne F c s.2.length s.1 (pivAt s.1 c s.2.length), s.2 ++ [(c : Int)]) else s
def red (F : FD) (rows : List (List Int)) : Nat → List (List Int) × List Int
  | 0 => (rows, [])
  | c + 1 => stepR F (red F rows c) c
section
variable {F : FD} {c t : Nat} {rows : List (List Int)}
theorem elimTo_len (F : FD) (c t : Nat) (rows : List (List Int)) (j : Nat) : (elimTo F c t rows j).length = rows.length := by
  induction j with
  | zero => rfl
  | succ j ih =>
    rw [elimTo]
    split
    · exact ih
    · rw [List.length_set, ih]
theorem elimTo_nth (j : Nat) (hj : j ≤ rows.length) (i : Nat) : nthL (elimTo F c t rows j) i = if i < j ∧ i ≠ t then less F (nthL rows i) (nthL rows t) (nth (nthL rows i) c) else nthL rows i := by
  induction j with
  | zero => rw [if_neg (by omega)]; rfl
  | succ j ih =>
    have ih := ih (by omega)
    rw [elimTo]
    by_cases e : j = t
    · rw [if_pos e, ih]
      by_cases h : i < j ∧ i ≠ t
      · rw [if_pos h, if_pos (by omega)]
      · rw [if_neg h, if_neg (by omega)]
    · rw [if_neg e]
      by_cases h : i = j
      · subst h
        rw [nthL_set_same (by rw [elimTo_len]; omega), if_pos (by omega)]
      · rw [nthL_set_ne (Ne.symm h), ih]
        by_cases g : i < j ∧ i ≠ t
        · rw [if_pos g, if_pos (by omega)]
        · rw [if_neg g, if_neg (by omega)]
theorem topped_len (F : FD) (c t : Nat) (rows : List (List Int)) (i : Nat) : (topped F c t rows i).length = rows.length := by simp [topped]
theorem redOne_len (F : FD) (c t : Nat) (rows : List (List Int)) (i : Nat) : (redOne F c t rows i).length = rows.length := by rw [redOne, elimTo_len, topped_len]
theorem red_len (F : FD) (rows : List (List Int)) (c : Nat) : (red F rows c).1.length = rows.length := by
  induction c with
  | zero => rfl
  | succ c ih =>
    rw [red, stepR]
    split
    · rw [redOne_len, ih]
    · exact ih
theorem red_piv (F : FD) (rows : List (List Int)) (c : Nat) : (red F rows c).2.length ≤ rows.length := by
  induction c with
  | zero => simp [red]
  | succ c ih =>
    rw [red, stepR]
    split
    · rename_i h
      rw [red_len] at h
      rw [List.length_append]; simp; omega
    · exact ih
theorem red_full (h : ¬ (red F rows c).2.length < rows.length) {d : Nat} (hd : c ≤ d) : red F rows d = red F rows c := by
  induction d with
  | zero => obtain rfl : c = 0 := by omega
            rfl
  | succ d ih =>
    by_cases e : c = d + 1
    · rw [e]
    · rw [red, ih (by omega), stepR, if_neg (by rw [red_len]; exact fun h2 => h h2.1)]
theorem Mat_nth {n : Nat} (h : F.Mat n rows) {i : Nat} (hi : i < rows.length) : (nthL rows i).length = n ∧ ∀ x ∈ nthL rows i, 0 ≤ x ∧ x < F.n := h _ (nthL_mem hi)
theorem Mat_of {n : Nat} (h : ∀ i, i < rows.length → (nthL rows i).length = n ∧ ∀ x ∈ nthL rows i, 0 ≤ x ∧ x < F.n) : F.Mat n rows := by
  intro xs hx
  obtain ⟨i, hi, rfl⟩ := List.getElem_of_mem hx
  have := h i hi
  rwa [nthL_lt hi] at this
theorem scale_el (ok : F.Ok) (s : Int) (xs : List Int) : ∀ x ∈ scale F s xs, 0 ≤ x ∧ x < F.n := by
  intro x hx
  obtain ⟨y, _, rfl⟩ := List.mem_map.1 hx
  exact mul_bd ok _ _
theorem less_el (ok : F.Ok) (xs ys : List Int) (s : Int) : ∀ x ∈ less F xs ys s, 0 ≤ x ∧ x < F.n := by
  intro x hx
  obtain ⟨i, _, rfl⟩ := List.mem_map.1 hx
  exact sub_bd ok _ _
theorem topped_Mat (ok : F.Ok) {n : Nat} (h : F.Mat n rows) {i : Nat} (hi : i < rows.length) (ht : t < rows.length) : F.Mat n (topped F c t rows i) := by
  refine Mat_of fun j hj => ?_
  rw [topped_len] at hj
  unfold topped
  by_cases e : j = t
  · subst e
    rw [nthL_set_same (by rw [List.length_set]; exact hj)]
    exact ⟨by rw [scale_len]; exact (Mat_nth h hi).1, scale_el ok _ _⟩
  · rw [nthL_set_ne (Ne.symm e)]
    by_cases e2 : j = i
    · subst e2
      rw [nthL_set_same hi]
      exact Mat_nth h ht
    · rw [nthL_set_ne (Ne.symm e2)]
      exact Mat_nth h hj
theorem elimTo_Mat (ok : F.Ok) {n : Nat} (h : F.Mat n rows) (j : Nat) (hj : j ≤ rows.length) : F.Mat n (elimTo F c t rows j) := by
  refine Mat_of fun i hi => ?_
  rw [elimTo_len] at hi
  rw [elimTo_nth j hj]
  split
  · exact ⟨by rw [less_len]; exact (Mat_nth h hi).1, less_el ok _ _ _⟩
  · exact Mat_nth h hi
theorem red_Mat (ok : F.Ok) {n : Nat} (h : F.Mat n rows) (c : Nat) : F.Mat n (red F rows c).1 := by
  induction c with
  | zero => exact h
  | succ c ih =>
    rw [red, stepR]
    split
    · rename_i hh
      rw [redOne]
      exact elimTo_Mat ok (topped_Mat ok ih hh.2 hh.1) _ (by rw [topped_len]; exact Nat.le_refl _)
    · exact ih
end
end Go.Proofs.Ytgmgpcaahanmiaa

/-
  Walks: values of polynomials, on both sides.
-/
namespace Go.Proofs.Ytgmgpcaahanmiaa
open Go.RowKit
attribute [local go_sem ↓] Go.wp_at_zero Go.wp_at_succ

/-- A value in Horner's way, the highest coefficient last in the list. -/
def hst (F : FD) (x v c : Int) : Int := lin 1 F.p F.k (mulF F.p F.k F.poly v x) c
def valF (F : FD) (x : Int) (msg : List Int) : Int := msg.foldr (fun c v => hst F x v c) 0
theorem valF_drop (F : FD) (x : Int) {msg : List Int} {k : Nat} (h : k < msg.length) : valF F x (msg.drop k) = hst F x (valF F x (msg.drop (k + 1))) (nth msg k) := by
  rw [List.drop_eq_getElem_cons h, nth_lt h]; rfl
theorem hst_range {F : FD} (ok : F.Ok) (x v c : Int) : 0 ≤ hst F x v c ∧ hst F x v c < 64 := by
  have h := lin_range (show 0 < F.p by have := ok.p2; omega) 1 F.k (mulF F.p F.k F.poly v x) c
  have := ok.q64
  exact ⟨h.1, by unfold hst; omega⟩
theorem valF_range {F : FD} (ok : F.Ok) (x : Int) (msg : List Int) : 0 ≤ valF F x msg ∧ valF F x msg < 64 := by
  cases msg with
  | nil => exact ⟨Int.le_refl _, by show (0 : Int) < 64; omega⟩
  | cons c cs => exact hst_range ok _ _ _
theorem mulF_bd {F : FD} (ok : F.Ok) (a b : Int) : 0 ≤ mulF F.p F.k F.poly a b ∧ mulF F.p F.k F.poly a b ≤ 1000000 := by
  have h := mulF_range (show 0 < F.p by have := ok.p2; omega) ok.len a b
  have := ok.q64
  exact ⟨h.1, by omega⟩

def vals (F : FD) (msg : List Int) (n : Nat) : List Int := (List.range n).map fun (x : Nat) => valF F x msg
theorem vals_len (F : FD) (msg : List Int) (n : Nat) : (vals F msg n).length = n := by simp [vals]
theorem vals_succ (F : FD) (msg : List Int) (n : Nat) : vals F msg (n + 1) = vals F msg n ++ [valF F n msg] := by simp [vals, List.range_succ]

/-! ### The program's -/
def horT (F : FD) (x : Int) (cs : List Int) (j : Nat) : Int := (cs.take j).foldl (fun v c => hst F x v c) 0
theorem horT_succ (F : FD) (x : Int) {cs : List Int} {j : Nat} (h : j < cs.length) : horT F x cs (j + 1) = hst F x (horT F x cs j) (nth cs j) := by
  rw [horT, take_nth h, List.foldl_append]; rfl
theorem horT_rev (F : FD) (x : Int) (msg : List Int) : horT F x msg.reverse msg.reverse.length = valF F x msg := by
  rw [horT, List.take_length, List.foldl_reverse]; rfl

set_option maxRecDepth 100000 in
set_option maxHeartbeats 1600000 in
theorem valueAt_any (F : FD) (ap : Option Addr) (cp : Nat) (b : Option Addr) (cb : Nat) (cs : List Int) (x : Int) (w : World) (hR : Rd w ap F.poly) (ok : F.Ok) (hx : Rd w b cs) (hx0 : 0 ≤ x) (hx1 : x ≤ 64) (hm : ∀ c ∈ cs, 0 ≤ c ∧ c ≤ 1000000) :
    Calls Try.prog 186 #[.agg #[.int .i64 F.p, .int .i64 F.k, .slice ap F.poly.length cp], .slice b cs.length cb, .int .i64 x] w fun e w' => e = .returned (.int .i64 (horT F x cs cs.length)) ∧ Below w.heap.size w w' := by
  have hml := hx.len
  obtain ⟨W0, hW0⟩ : ∃ W0, W0 = w.alloc (.cells #[.int .i64 F.p, .int .i64 F.k, .slice ap F.poly.length cp] 34) := ⟨_, rfl⟩
  have hbW : Below w.heap.size w W0 := by rw [hW0]; exact (Below.refl _ _).alloc (Nat.le_refl _) _
  have hsW : w.heap.size ≤ W0.heap.size := hbW.size
  have kF : Blk W0 w.heap.size 34 #[.int .i64 F.p, .int .i64 F.k, .slice ap F.poly.length cp] := by rw [hW0]; exact Blk.new _ _ _ rfl
  have hR0 := hR.below hbW
  have hX0 := hx.below hbW
  have HW := Lib.hid hW0
  clear hW0
  go_enter Try.func186, Try.ntmps186
  go_wp2_with fail
  rw [← HW.out]
  go_loopw [7, 12] (fun vv jv wr => ∃ (j : Nat) (y : Int), jv = .int .i64 j ∧ vv = .int .i64 y ∧ j ≤ cs.length ∧ Hid (y = horT F x cs j) ∧ 0 ≤ y ∧ y ≤ 64 ∧ Below W0.heap.size W0 wr) (fun _ jv _ => cs.length - (intOf jv).toNat)
  case atStart => exact ⟨0, 0, rfl, rfl, Nat.zero_le _, by show _ = _; simp [horT], by omega, by omega, Below.refl _ _⟩
  case round =>
    obtain ⟨j, y, rfl, rfl, hj, hy, hy0, hy1, hb⟩ := hrel
    have hsz := hb.size
    by_cases hjl : j < cs.length
    · obtain ⟨gb, ob, rfl, hbb, hcx⟩ := (hX0.below hb).at_ (by omega)
      have hc := hcx j hjl
      have hcr := hm _ (nth_mem hjl)
      obtain ⟨c, hcc⟩ : ∃ c, c = nth cs j := ⟨_, rfl⟩
      rw [← hcc] at hc hcr
      obtain ⟨M, hMM⟩ : ∃ M, M = mulF F.p F.k F.poly y x := ⟨_, rfl⟩
      have hMb := mulF_bd ok y x
      rw [← hMM] at hMb
      have boxes : ∀ (W : World), Below wr.heap.size wr W → (Below wr.heap.size wr W ∧ W.cell? ⟨w.heap.size, 0, none⟩ = some (.int .i64 F.p) ∧ W.cell? ⟨w.heap.size, 1, none⟩ = some (.int .i64 F.k) ∧ W.cell? ⟨w.heap.size, 2, none⟩ = some (.slice ap F.poly.length cp)) := fun _ h =>
        ⟨h, ((kF.below hb kF.lt).below h (kF.below hb kF.lt).lt).cell 0, ((kF.below hb kF.lt).below h (kF.below hb kF.lt).lt).cell 1, ((kF.below hb kF.lt).below h (kF.below hb kF.lt).lt).cell 2⟩
      have hRr := hR0.below hb
      have hmul := fun W h => product_any F ap cp y x W h ok hy0 (by omega) hx0 (by omega)
      have hsum := fun W h => combine_any F ap cp M c 1 W h ok hMb.1 hMb.2 hcr.1 hcr.2 (.inl rfl)
      rw [← hMM] at hmul
      have BX := hide boxes
      have HMUL := hide hmul
      have HSUM := hide hsum
      have HST : Hid (lin 1 F.p F.k M c = horT F x cs (j + 1)) := by show _ = _; rw [horT_succ F x hjl, hst, hMM, hcc, hy.out]
      have hrng := hst_range ok x y c
      rw [hst, ← hMM] at hrng
      clear boxes hmul hsum hcx hcc hMM
      go_upto_region 5 with fail
      go_region_held3 (fun W => Below wr.heap.size wr W ∧ W.cell? ⟨w.heap.size, 0, none⟩ = some (.int .i64 F.p) ∧ W.cell? ⟨w.heap.size, 1, none⟩ = some (.int .i64 F.k) ∧ W.cell? ⟨w.heap.size, 2, none⟩ = some (.slice ap F.poly.length cp))
        (first | exact (unhide BX) _ (Below.refl _ _) | exact (unhide BX) _ ((Below.refl _ _).drew) | exact (unhide BX) _ (by assumption))
        (first
          | (go_at_call 174; refine (unhide HMUL _ ?_).mono ?_; exact hRr.below (And.left (by assumption)); rintro e W1 ⟨rfl, b1⟩; have hB1 := Below.chain (a := wr) (And.left (by assumption)) b1)
          | (go_at_call 173; refine (unhide HSUM _ ?_).mono ?_; exact hRr.below hB1; rintro e W2 ⟨rfl, b2⟩; have hB2 := Below.chain hB1 b2))
      all_goals
        have hb3 := hb.trans (hB2.mono hsz)
        clear BX HMUL HSUM hB1 hB2
        go_wp2
        go_roundw
        case rel => exact ⟨j + 1, _, by go_num, rfl, by omega, by show _ = _; exact HST.out, hrng.1, by omega, hb3⟩
        case measure => simp only [intOf]; omega
    · have hje : j = cs.length := by omega
      have HE := Lib.hid hje
      clear hje
      go_wp2
      go_ret
      exact ⟨ret_int (by rw [hy.out, HE.out]), hbW.trans (hb.mono hsW)⟩

set_option maxRecDepth 100000 in
set_option maxHeartbeats 1600000 in
theorem polynomialWord_any (F : FD) (ap : Option Addr) (cp : Nat) (b : Option Addr) (cb : Nat) (msg : List Int) (n : Nat) (w : World) (hR : Rd w ap F.poly) (ok : F.Ok) (hx : Rd w b msg) (hn : n ≤ 64) (h1 : 1 ≤ msg.length) (hm : ∀ c ∈ msg, 0 ≤ c ∧ c ≤ 1000000) :
    Calls Try.prog 107 #[.agg #[.int .i64 F.p, .int .i64 F.k, .slice ap F.poly.length cp], .slice b msg.length cb, .int .i64 n] w fun e w' => ∃ v, e = .returned v ∧ Own w' w.heap.size v (vals F msg n) ∧ Below w.heap.size w w' := by
  obtain ⟨W0, hW0⟩ : ∃ W0, W0 = w.alloc (.cells #[.int .i64 F.p, .int .i64 F.k, .slice ap F.poly.length cp] 34) := ⟨_, rfl⟩
  have hbW : Below w.heap.size w W0 := by rw [hW0]; exact (Below.refl _ _).alloc (Nat.le_refl _) _
  have hsW : w.heap.size ≤ W0.heap.size := hbW.size
  have kF : Blk W0 w.heap.size 34 #[.int .i64 F.p, .int .i64 F.k, .slice ap F.poly.length cp] := by rw [hW0]; exact Blk.new _ _ _ rfl
  have hR0 := hR.below hbW
  have hX0 := hx.below hbW
  have HW := Lib.hid hW0
  clear hW0
  go_enter Try.func107, Try.ntmps107
  go_wp2_with fail
  rw [← HW.out]
  refine (clone_any b cb msg W0 hX0).mono ?_
  rintro e w1 ⟨v1, rfl, o1, b1⟩
  obtain ⟨g1, c1, rfl, q1, z1, cc1, cd1⟩ := o1.at_len rfl h1
  go_wp2_with fail
  refine (reverse_any g1 c1 W0.heap.size msg w1 o1).mono ?_
  rintro e w2 ⟨rfl, o2, b2⟩
  have hsz1 := b1.size
  have hb2 := b1.trans b2
  have hsz2 := hb2.size
  obtain ⟨cs, hcs⟩ : ∃ cs, cs = msg.reverse := ⟨_, rfl⟩
  have hcl : cs.length = msg.length := by rw [hcs, List.length_reverse]
  have hmr : ∀ c ∈ cs, 0 ≤ c ∧ c ≤ 1000000 := by rw [hcs]; exact fun c hc => hm c (List.mem_reverse.1 hc)
  have hval : ∀ x, horT F x cs cs.length = valF F x msg := fun x => by rw [hcs]; exact horT_rev F x msg
  rw [← hcs] at o2
  have k2 := kF.below hb2 kF.lt
  have HV := hide hval
  have HMR := hide hmr
  have HCL := Lib.hid hcl
  have O2 := Lib.hid o2
  clear hcs hcl hmr hval o2 o1 b1 b2
  go_wp2_with fail
  go_loopw [8, 15] (fun v xv wr => ∃ (x : Nat), xv = .int .i64 x ∧ x ≤ n ∧ Hid (Own wr w2.heap.size v (vals F msg x)) ∧ Below w2.heap.size w2 wr) (fun _ xv _ => n - (intOf xv).toNat)
  case atStart => exact ⟨0, rfl, Nat.zero_le _, Own.nil _ _, Below.refl _ _⟩
  case round =>
    obtain ⟨x, rfl, hxn, ho, hb⟩ := hrel
    have hsz := hb.size
    by_cases hxl : x < n
    · have kr := k2.below hb k2.lt
      have f0 : wr.cell? ⟨w.heap.size, 0, none⟩ = some (.int .i64 F.p) := kr.cell 0
      have f1 : wr.cell? ⟨w.heap.size, 1, none⟩ = some (.int .i64 F.k) := kr.cell 1
      have f2 : wr.cell? ⟨w.heap.size, 2, none⟩ = some (.slice ap F.poly.length cp) := kr.cell 2
      have hcall := valueAt_any F ap cp (some ⟨g1, 0, none⟩) c1 cs x wr ((hR0.below hb2).below hb) ok ((O2.out.below hb (Nat.le_refl _)).rd (n := msg.length) (c := c1)) (by omega) (by omega) (unhide HMR)
      rw [unhide HV x, HCL.out] at hcall
      have hvr := valF_range ok x msg
      obtain ⟨y, hyy⟩ : ∃ y, y = valF F x msg := ⟨_, rfl⟩
      rw [← hyy] at hcall hvr
      have HY := Lib.hid hyy.symm
      clear hyy
      have HC := hide hcall
      clear hcall
      go_wp2_with fail
      refine (unhide HC).mono ?_
      rintro e w3 ⟨rfl, b3⟩
      have o3 := ho.out.below b3 (Nat.le_refl _)
      have hb3 := hb.trans (b3.mono hsz)
      have hsz3 := hb3.size
      go_wp2_with (at_builtin; refine wpList_append_ints rfl (.tmp 18) (.tmp 23) rfl w2.heap.size u8 (vals F msg x) [y] rfl (o3.alloc _) _ 1 1 rfl rfl (Rd.one w3 y _) (by rw [vals_len]; simp; omega) (by simp; omega) ?_; intro v4 w4 o4 g4 _)
      go_roundw
      case rel => exact ⟨x + 1, by go_num, by omega, by show Own _ _ _ _; rw [vals_succ, HY.out]; exact o4, Below.step (hb3.alloc hsz3 _) g4 (o3.alloc _) (Nat.le_refl _) (by simp; omega)⟩
      case measure => simp only [intOf]; omega
    · have hxe : x = n := by omega
      have HE := Lib.hid hxe
      clear hxe
      go_wp2
      go_ret
      exact ⟨_, rfl, by have o := ho.out; rw [HE.out] at o; exact o.mono (by omega), hbW.trans ((hb2.trans (hb.mono hsz2)).mono hsW)⟩
end Go.Proofs.Ytgmgpcaahanmiaa

/-
  Walks: tests of elements, PolynomialWord on both sides. Printed by gen_polyw.py.
-/
namespace Go.Proofs.Ytgmgpcaahanmiaa
open Go.RowKit
attribute [local go_sem ↓] Go.wp_at_zero Go.wp_at_succ

def isElem (q x : Int) : Bool := inB x 0 (q - 1)
def notElem (q x : Int) : Bool := !isElem q x
/-- All numbers of a list are elements of a field of size q. -/
def elems (q : Int) (xs : List Int) : Bool := !xs.any (notElem q)
theorem elems_true {q : Int} {xs : List Int} : elems q xs = true ↔ ∀ x ∈ xs, 0 ≤ x ∧ x < q := by
  rw [elems, Bool.not_eq_true', List.any_eq_false]
  constructor
  · intro h x hx
    have := h x hx
    simp [notElem, isElem, inB] at this
    omega
  · intro h x hx
    have := h x hx
    simp [notElem, isElem, inB]
    omega
theorem areIn1_any (q : Int) (gq : Nat) (x : Int) (w : World) (h1 : 1 ≤ q) (h2 : q ≤ 64) (hq : w.cell? ⟨gq, 0, none⟩ = some (.int .i64 q)) :
    Calls Try.prog 172 #[.int .i64 x, .pointer (some ⟨gq, 0, none⟩)] w fun e w' => e = .returned (.bool (notElem q x)) ∧ w = w' := by
  have hw := within_any x 0 (q - 1) w
  unfold notElem isElem
  generalize inB x 0 (q - 1) = r at hw
  have HW := hide hw
  clear hw
  go_enter Try.func172, Try.ntmps172
  go_wp2_with fail
  refine (unhide HW).mono ?_
  rintro e w1 ⟨rfl, rfl⟩
  go_wp2
  go_ret
  exact ⟨rfl, rfl⟩

set_option maxHeartbeats 400000 in
theorem idx_areIn (q : Int) (gq : Nat) (hq1 : 1 ≤ q) (hq2 : q ≤ 64) (a : Option Addr) (c : Nat) (xs : List Int) (w : World) (hx : Rd w a xs) (hq : w.cell? ⟨gq, 0, none⟩ = some (.int .i64 q)) :
    Calls Try.prog 92 #[.slice a xs.length c, .func (.func 172) #[] #[.pointer (some ⟨gq, 0, none⟩)]] w fun e w' => e = .returned (.int .i64 (firstOf (notElem q) xs)) ∧ w = w' := by
  have hxl := hx.len
  have hq0 := hq
  go_enter Try.func92, Try.ntmps92
  go_wp2_with fail
  go_loop [8] (fun i => ∃ k : Nat, i = .int .i64 k ∧ k ≤ xs.length ∧ Hid (∀ j, j < k → (notElem q) (nth xs j) = false)) (fun i => xs.length - (intOf i).toNat)
  case atStart => exact ⟨0, rfl, Nat.zero_le _, fun j hj => by omega⟩
  case round =>
    obtain ⟨k, rfl, hk, hq⟩ := hrel
    by_cases hkl : k < xs.length
    · obtain ⟨b1, o1, rfl, _, hc⟩ := hx.at_ (by omega)
      have h1 := hc k hkl
      clear hc hx
      obtain ⟨r, hr⟩ : ∃ r, (notElem q) (nth xs k) = r := ⟨_, rfl⟩
      have HR := Lib.hid hr
      have hcl := areIn1_any q gq (nth xs k) w hq1 hq2 hq0
      rw [hr] at hcl
      have HC := hide hcl
      clear hr hcl
      go_wp2_with fail
      refine (unhide HC).mono ?_
      rintro e w1 ⟨rfl, rfl⟩
      cases r
      · go_wp2
        go_round
        case rel =>
          refine ⟨k + 1, by go_num, by omega, fun j hj => ?_⟩
          rcases Nat.lt_succ_iff_lt_or_eq.1 hj with h | rfl
          · exact hq.out j h
          · exact HR.out
        case measure => simp [intOf]; omega
      · go_wp2
        go_ret
        exact ⟨ret_int (firstOf_yes hkl HR.out hq.out).symm, rfl⟩
    · go_wp2
      go_ret
      exact ⟨ret_int (firstOf_no (fun j hj => hq.out j (by omega))).symm, rfl⟩

theorem has_areIn (q : Int) (gq : Nat) (hq1 : 1 ≤ q) (hq2 : q ≤ 64) (a : Option Addr) (c : Nat) (xs : List Int) (w : World) (hx : Rd w a xs) (hq : w.cell? ⟨gq, 0, none⟩ = some (.int .i64 q)) :
    Calls Try.prog 171 #[.slice a xs.length c, .func (.func 172) #[] #[.pointer (some ⟨gq, 0, none⟩)]] w fun e w' => e = .returned (.bool (xs.any (notElem q))) ∧ w = w' := by
  have hc := idx_areIn q gq hq1 hq2 a c xs w hx hq
  rw [any_firstOf]
  generalize hf : firstOf (notElem q) xs = r at hc
  have HF := Lib.hid hf
  have HC := hide hc
  clear hf hc
  by_cases h0 : 0 ≤ r
  · go_enter Try.func171, Try.ntmps171
    go_wp2_with fail
    refine (unhide HC).mono ?_
    rintro e w1 ⟨rfl, rfl⟩
    go_wp2
    go_ret
    exact ⟨ret_bool (by simp [h0]), rfl⟩
  · go_enter Try.func171, Try.ntmps171
    go_wp2_with fail
    refine (unhide HC).mono ?_
    rintro e w1 ⟨rfl, rfl⟩
    go_wp2
    go_ret
    exact ⟨ret_bool (by simp [show ¬ 0 ≤ r by omega]), rfl⟩

theorem areIn_any (q : Int) (a : Option Addr) (c : Nat) (xs : List Int) (w : World) (h1 : 1 ≤ q) (h2 : q ≤ 64) (hx : Rd w a xs) :
    Calls Try.prog 88 #[.int .i64 q, .slice a xs.length c] w fun e w' => e = .returned (.bool (elems q xs)) ∧ Below w.heap.size w w' := by
  obtain ⟨W0, hW0⟩ : ∃ W0, W0 = w.alloc (.cells #[.int .i64 q] 2) := ⟨_, rfl⟩
  have hbW : Below w.heap.size w W0 := by rw [hW0]; exact (Below.refl _ _).alloc (Nat.le_refl _) _
  have hc := has_areIn q w.heap.size h1 h2 a c xs W0 (hx.below hbW) (by rw [hW0]; exact (Blk.new w 2 #[.int .i64 q] rfl).cell 0)
  unfold elems
  generalize xs.any (notElem q) = r at hc
  have HC := hide hc
  have HW := Lib.hid hW0
  clear hc hW0
  go_enter Try.func88, Try.ntmps88
  go_wp2_with fail
  rw [← HW.out]
  refine (unhide HC).mono ?_
  rintro e w1 ⟨rfl, rfl⟩
  go_wp2
  go_ret
  exact ⟨rfl, hbW⟩

theorem elems_no {q : Int} {xs : List Int} {k : Nat} (hk : k < xs.length) (h : isElem q (nth xs k) = false) : elems q xs = false := by
  have : xs.any (notElem q) = true := List.any_eq_true.2 ⟨_, nth_mem hk, by simp [notElem, h]⟩
  simp [elems, this]
theorem elems_yes {q : Int} {xs : List Int} (h : ∀ j, j < xs.length → isElem q (nth xs j) = true) : elems q xs = true := by
  rw [elems_true]
  intro x hx
  obtain ⟨i, hi, rfl⟩ := List.getElem_of_mem hx
  have := h i hi
  rw [nth_lt hi, isElem, inB_true] at this
  omega
set_option maxHeartbeats 400000 in
theorem l19Elements_any (q : Int) (a : Option Addr) (c : Nat) (xs : List Int) (w : World) (h1 : 1 ≤ q) (h2 : q ≤ 64) (hx : Rd w a xs) :
    Calls Try.prog 79 #[.int .i64 q, .slice a xs.length c] w fun e w' => e = .returned (.bool (elems q xs)) ∧ w = w' := by
  have hxl := hx.len
  go_enter Try.func79, Try.ntmps79
  go_wp2
  go_loop [5] (fun i => ∃ k : Nat, i = .int .i64 k ∧ k ≤ xs.length ∧ Hid (∀ j, j < k → isElem q (nth xs j) = true)) (fun i => xs.length - (intOf i).toNat)
  case atStart => exact ⟨0, rfl, Nat.zero_le _, fun j hj => by omega⟩
  case round =>
    obtain ⟨k, rfl, hk, hq⟩ := hrel
    by_cases hkl : k < xs.length
    · obtain ⟨b1, o1, rfl, _, hc⟩ := hx.at_ (by omega)
      have h1 := hc k hkl
      clear hc hx
      have hcl := l00In_any (nth xs k) 0 (q - 1) w
      obtain ⟨r, hr⟩ : ∃ r, isElem q (nth xs k) = r := ⟨_, rfl⟩
      have HR := Lib.hid hr
      rw [isElem] at hr
      rw [hr] at hcl
      have HC := hide hcl
      clear hr hcl
      go_wp2_with fail
      refine (unhide HC).mono ?_
      rintro e w1 ⟨rfl, rfl⟩
      cases r
      · go_wp2
        go_ret
        exact ⟨ret_bool (elems_no hkl HR.out).symm, rfl⟩
      · go_wp2
        go_round
        case rel =>
          refine ⟨k + 1, by go_num, by omega, fun j hj => ?_⟩
          rcases Nat.lt_succ_iff_lt_or_eq.1 hj with h | rfl
          · exact hq.out j h
          · exact HR.out
        case measure => simp [intOf]; omega
    · go_wp2
      go_ret
      exact ⟨ret_bool (elems_yes (fun j hj => hq.out j (by omega))).symm, rfl⟩

/-- There are n elements to take values at. -/
def lenOk (q n : Int) : Bool := isField q && inB n 1 (min q 32)
theorem isWordLength_any (q n : Int) (w : World) (_h1 : 1 ≤ q) (_h2 : q ≤ 64) :
    Calls Try.prog 111 #[.int .i64 q, .int .i64 n] w fun e w' => e = .returned (.bool (inB n 1 (min q 32))) ∧ w = w' := by
  by_cases h : q ≤ 32
  · have hm : min q 32 = q := by omega
    have hw := within_any n 1 q w
    rw [hm]
    generalize inB n 1 q = r at hw
    have HW := hide hw
    clear hw hm
    go_enter Try.func111, Try.ntmps111
    go_wp2_with fail
    refine (unhide HW).mono ?_
    rintro e w1 ⟨rfl, rfl⟩
    go_wp2
    go_ret
    exact ⟨rfl, rfl⟩
  · have hm : min q 32 = 32 := by omega
    have hw := within_any n 1 32 w
    rw [hm]
    generalize inB n 1 32 = r at hw
    have HW := hide hw
    clear hw hm
    go_enter Try.func111, Try.ntmps111
    go_wp2_with fail
    refine (unhide HW).mono ?_
    rintro e w1 ⟨rfl, rfl⟩
    go_wp2
    go_ret
    exact ⟨rfl, rfl⟩
theorem l00Min_any (a b : Int) (w : World) : Calls Try.prog 184 #[.int .i64 a, .int .i64 b] w fun e w' => e = .returned (.int .i64 (min a b)) ∧ w = w' := by
  by_cases h : a < b
  · go_enter Try.func184, Try.ntmps184
    go_wp2
    go_ret
    exact ⟨ret_int (by omega), rfl⟩
  · go_enter Try.func184, Try.ntmps184
    go_wp2
    go_ret
    exact ⟨ret_int (by omega), rfl⟩
/-- PolynomialWord. -/
def pwRes (q : Int) (msg : List Int) (n : Int) : List Int × Int :=
  if lenOk q n then (if decide (0 < msg.length) && elems q msg then (vals (fdOf q) msg n.toNat, 0) else ([], 1)) else ([], 2)
theorem lenOk_true {q n : Int} (h : lenOk q n = true) : isField q = true ∧ 2 ≤ q ∧ q ≤ 64 ∧ 1 ≤ n ∧ n ≤ 32 := by
  rw [lenOk, Bool.and_eq_true, inB_true] at h
  obtain ⟨h2, h64, _⟩ := isField_size h.1
  exact ⟨h.1, h2, h64, by omega, by omega⟩

def ResL (w : World) (r : List Int × Int) (e : Ending) (w' : World) : Prop := ∃ v, e = .returned (.tuple #[v, .int .i64 r.2]) ∧ Own w' w.heap.size v r.1 ∧ Below w.heap.size w w'

set_option maxRecDepth 100000 in
set_option maxHeartbeats 800000 in
theorem implPW_any (q : Int) (b : Option Addr) (cb : Nat) (msg : List Int) (n : Int) (w : World) (hx : Rd w b msg) :
    Calls Try.prog 29 #[.int .i64 q, .slice b msg.length cb, .int .i64 n] w (ResL w (pwRes q msg n)) := by
  have hxl := hx.len
  unfold pwRes
  by_cases hf : isField q = true
  · obtain ⟨h2, h64, _⟩ := isField_size hf
    have hM := implMake_any q w hf
    obtain ⟨ok, hq, _⟩ := fdOf_ok hf
    have hW := fun W => isWordLength_any q n W (by omega) h64
    generalize fdOf q = F at hM ok hq ⊢
    have HM := hide hM
    have HQ := Lib.hid hq
    clear hM hq
    by_cases hn : inB n 1 (min q 32) = true
    · have hn2 := inB_true.1 hn
      rw [if_pos (by rw [lenOk, hf, hn]; rfl)]
      rw [hn] at hW
      have HW := hide hW
      obtain ⟨N, rfl⟩ := Int.eq_ofNat_of_zero_le (show 0 ≤ n by omega)
      have hN : N ≤ 32 := by omega
      clear hW hn hn2
      rw [Int.toNat_natCast]
      by_cases h0 : 0 < msg.length
      · have hne : ((msg.length : Int) == 0) = false := by rw [beq_eq_false_iff_ne]; omega
        have hE := fun W h => areIn_any q b cb msg W (by omega) h64 h
        by_cases he : elems q msg = true
        · have hel := elems_true.1 he
          rw [he] at hE
          rw [if_pos (by simp [h0, he])]
          have hmr : ∀ c ∈ msg, 0 ≤ c ∧ c ≤ 1000000 := fun c hc => by have := hel c hc; omega
          have HE := hide hE
          have HMR := hide hmr
          clear hE hmr hel he hf
          go_enter Try.func29, Try.ntmps29
          go_wp2_with fail
          refine (unhide HM).mono ?_
          rintro e w1 ⟨v1, rfl, o1, b1⟩
          obtain ⟨a1, c1, rfl, r1, _⟩ := o1.form
          obtain ⟨W1, hW1⟩ : ∃ W1, W1 = w1.alloc (.cells #[.int .i64 F.p, .int .i64 F.k, .slice a1 F.poly.length c1] 34) := ⟨_, rfl⟩
          have hbW : Below w1.heap.size w1 W1 := by rw [hW1]; exact (Below.refl _ _).alloc (Nat.le_refl _) _
          have kF : Blk W1 w1.heap.size 34 #[.int .i64 F.p, .int .i64 F.k, .slice a1 F.poly.length c1] := by rw [hW1]; exact Blk.new _ _ _ rfl
          have r1W := r1.below hbW
          have hb := Below.chain b1 hbW
          have hHW := Lib.hid hW1
          clear hW1
          go_wp2_with fail
          rw [← hHW.out]
          refine (unhide HW _).mono ?_
          rintro e w2 ⟨rfl, rfl⟩
          go_wp2_with fail
          refine (unhide HE _ (hx.below hb)).mono ?_
          rintro e w2 ⟨rfl, b2⟩
          have k2 := kF.below b2 kF.lt
          have f0 : w2.cell? ⟨w1.heap.size, 0, none⟩ = some (.int .i64 F.p) := k2.cell 0
          have f1 : w2.cell? ⟨w1.heap.size, 1, none⟩ = some (.int .i64 F.k) := k2.cell 1
          have f2 : w2.cell? ⟨w1.heap.size, 2, none⟩ = some (.slice a1 F.poly.length c1) := k2.cell 2
          have hb2 := Below.chain hb b2
          go_wp2_with fail
          refine (polynomialWord_any F a1 c1 b cb msg N w2 (r1W.below b2) ok (hx.below hb2) (by omega) h0 (unhide HMR)).mono ?_
          rintro e w3 ⟨v3, rfl, o3, b3⟩
          go_wp2
          go_ret2
          exact ⟨_, rfl, o3.mono hb2.size, hb2.trans (b3.mono hb2.size)⟩
        · have he' : elems q msg = false := by simpa using he
          rw [he'] at hE
          rw [if_neg (by simp [he'])]
          have HE := hide hE
          clear hE he he' hf
          go_enter Try.func29, Try.ntmps29
          go_wp2_with fail
          refine (unhide HM).mono ?_
          rintro e w1 ⟨v1, rfl, o1, b1⟩
          obtain ⟨a1, c1, rfl, r1, _⟩ := o1.form
          obtain ⟨W1, hW1⟩ : ∃ W1, W1 = w1.alloc (.cells #[.int .i64 F.p, .int .i64 F.k, .slice a1 F.poly.length c1] 34) := ⟨_, rfl⟩
          have hbW : Below w1.heap.size w1 W1 := by rw [hW1]; exact (Below.refl _ _).alloc (Nat.le_refl _) _
          have kF : Blk W1 w1.heap.size 34 #[.int .i64 F.p, .int .i64 F.k, .slice a1 F.poly.length c1] := by rw [hW1]; exact Blk.new _ _ _ rfl
          have r1W := r1.below hbW
          have hb := Below.chain b1 hbW
          have hHW := Lib.hid hW1
          clear hW1
          go_wp2_with fail
          rw [← hHW.out]
          refine (unhide HW _).mono ?_
          rintro e w2 ⟨rfl, rfl⟩
          go_wp2_with fail
          refine (unhide HE _ (hx.below hb)).mono ?_
          rintro e w2 ⟨rfl, b2⟩
          have hb2 := Below.chain hb b2
          go_wp2
          go_ret2
          exact ⟨_, rfl, Own.nil _ _, hb2⟩
      · have hm0 : msg.length = 0 := by omega
        have hne : ((msg.length : Int) == 0) = true := by rw [beq_iff_eq]; omega
        rw [if_neg (by simp [hm0])]
        clear hm0 hf
        go_enter Try.func29, Try.ntmps29
        go_wp2_with fail
        refine (unhide HM).mono ?_
        rintro e w1 ⟨v1, rfl, o1, b1⟩
        obtain ⟨a1, c1, rfl, r1, _⟩ := o1.form
        obtain ⟨W1, hW1⟩ : ∃ W1, W1 = w1.alloc (.cells #[.int .i64 F.p, .int .i64 F.k, .slice a1 F.poly.length c1] 34) := ⟨_, rfl⟩
        have hbW : Below w1.heap.size w1 W1 := by rw [hW1]; exact (Below.refl _ _).alloc (Nat.le_refl _) _
        have kF : Blk W1 w1.heap.size 34 #[.int .i64 F.p, .int .i64 F.k, .slice a1 F.poly.length c1] := by rw [hW1]; exact Blk.new _ _ _ rfl
        have r1W := r1.below hbW
        have hb := Below.chain b1 hbW
        have hHW := Lib.hid hW1
        clear hW1
        go_wp2_with fail
        rw [← hHW.out]
        refine (unhide HW _).mono ?_
        rintro e w2 ⟨rfl, rfl⟩
        go_wp2
        go_ret2
        exact ⟨_, rfl, Own.nil _ _, hb⟩
    · have hn' : inB n 1 (min q 32) = false := by simpa using hn
      rw [if_neg (by rw [lenOk, hn']; simp)]
      rw [hn'] at hW
      have HW := hide hW
      clear hW hn hn' hf
      go_enter Try.func29, Try.ntmps29
      go_wp2_with fail
      refine (unhide HM).mono ?_
      rintro e w1 ⟨v1, rfl, o1, b1⟩
      obtain ⟨a1, c1, rfl, r1, _⟩ := o1.form
      obtain ⟨W1, hW1⟩ : ∃ W1, W1 = w1.alloc (.cells #[.int .i64 F.p, .int .i64 F.k, .slice a1 F.poly.length c1] 34) := ⟨_, rfl⟩
      have hbW : Below w1.heap.size w1 W1 := by rw [hW1]; exact (Below.refl _ _).alloc (Nat.le_refl _) _
      have kF : Blk W1 w1.heap.size 34 #[.int .i64 F.p, .int .i64 F.k, .slice a1 F.poly.length c1] := by rw [hW1]; exact Blk.new _ _ _ rfl
      have r1W := r1.below hbW
      have hb := Below.chain b1 hbW
      have hHW := Lib.hid hW1
      clear hW1
      go_wp2_with fail
      rw [← hHW.out]
      refine (unhide HW _).mono ?_
      rintro e w2 ⟨rfl, rfl⟩
      go_wp2
      go_ret2
      exact ⟨_, rfl, Own.nil _ _, hb⟩
  · have hf' : isField q = false := by simpa using hf
    have hM := MakeField_no q w hf'
    rw [if_neg (by rw [lenOk, hf']; simp)]
    have HM := hide hM
    clear hM hf hf'
    go_enter Try.func29, Try.ntmps29
    go_wp2_with fail
    refine (unhide HM).mono ?_
    rintro e w1 ⟨v1, rfl, o1, b1⟩
    obtain ⟨a1, c1, rfl, r1, _⟩ := o1.form
    go_wp2
    go_ret2
    exact ⟨_, rfl, Own.nil _ _, Below.chain b1 ((Below.refl _ _).alloc (Nat.le_refl _) _)⟩
end Go.Proofs.Ytgmgpcaahanmiaa

/-
  Walk: a multiple of a row added to a row in place: the program's addTimes.
-/
namespace Go.Proofs.Ytgmgpcaahanmiaa
open Go.RowKit
attribute [local go_sem ↓] Go.wp_at_zero Go.wp_at_succ

/-- Two places of a table. -/
theorem tab_at {w : World} {a : Option Addr} {f : Int → Int → Int} {n : Nat} (h : RdS w a (rowsTo f n n)) {i j : Nat} (hi : i < n) (hj : j < n) :
    ∃ b off bi oi ci, a = some ⟨b, off, none⟩ ∧ w.cell? ⟨b, off + i, none⟩ = some (.slice (some ⟨bi, oi, none⟩) n ci) ∧ w.cell? ⟨bi, oi + j, none⟩ = some (.int .i64 (f i j)) := by
  obtain ⟨b, off, rfl, _, hc⟩ := h.at_ (by rw [rowsTo_len]; omega)
  obtain ⟨ai, ci, h1, h2⟩ := hc i (by rw [rowsTo_len]; exact hi)
  rw [rowsTo_nth f n hi] at h1 h2
  obtain ⟨bi, oi, rfl, _, hd⟩ := h2.at_ (by rw [rowF_len]; omega)
  have h3 := hd j (by rw [rowF_len]; exact hj)
  rw [rowF_len] at h1
  rw [rowF_nth f i hj] at h3
  exact ⟨b, off, bi, oi, ci, rfl, h1, h3⟩
/-- k places of xs with s times those of ys added. -/
def addTo (F : FD) (xs ys : List Int) (s : Int) : Nat → List Int
  | 0 => xs
  | k + 1 => (addTo F xs ys s k).set k (F.add (nth xs k) (F.mul s (nth ys k)))
theorem addTo_len (F : FD) (xs ys : List Int) (s : Int) (k : Nat) : (addTo F xs ys s k).length = xs.length := by
  induction k with
  | zero => rfl
  | succ k ih => rw [addTo, List.length_set, ih]
theorem addTo_nth (F : FD) (xs ys : List Int) (s : Int) (k : Nat) (hk : k ≤ xs.length) (i : Nat) : nth (addTo F xs ys s k) i = if i < k then F.add (nth xs i) (F.mul s (nth ys i)) else nth xs i := by
  induction k with
  | zero => rfl
  | succ k ih =>
    have ih := ih (by omega)
    rw [addTo]
    by_cases e : i = k
    · subst e
      rw [nth_set_same (by rw [addTo_len]; omega), if_pos (by omega)]
    · rw [nth_set_ne (by omega), ih]
      by_cases h : i < k
      · rw [if_pos h, if_pos (by omega)]
      · rw [if_neg h, if_neg (by omega)]

theorem grown_drew {w w' : World} {row : Option Nat} (h : w.grownBy w' row) : w.grownBy w'.drew row := ⟨h.os, h.tape, h.output, h.size, h.block⟩

set_option maxRecDepth 100000 in
set_option maxHeartbeats 1600000 in
theorem addTimes_any (F : FD) (tv : Value) (wt w : World) (B g1 c1 : Nat) (b : Option Addr) (d : Nat) (xs ys : List Int) (s : Int) (ok : F.Ok) (hT : Tabs wt F tv) (hbt : Below wt.heap.size wt w) (hBt : wt.heap.size ≤ B)
    (ho : Own w B (.slice (some ⟨g1, 0, none⟩) xs.length c1) xs) (hy : Rd w b ys) (hne : ∀ p, b = some p → p.block ≠ g1) (hl : ys.length = xs.length) (hs0 : 0 ≤ s) (hs1 : s < F.n) (hm : ∀ x ∈ xs, 0 ≤ x ∧ x < F.n) (hm2 : ∀ y ∈ ys, 0 ≤ y ∧ y < F.n) :
    Calls Try.prog 90 #[tv, .slice (some ⟨g1, 0, none⟩) xs.length c1, .slice b ys.length d, .int .i64 s] w fun e w' => e = .returned (.tuple #[]) ∧ Own w' B (.slice (some ⟨g1, 0, none⟩) xs.length c1) (addTo F xs ys s xs.length) ∧ w.grownBy w' (some g1) := by
  obtain ⟨aA, cA, aS, cS, aM, cM, aI, cI, rfl, tA, tS, tM, tI⟩ := hT
  obtain ⟨n2, n64⟩ := ok.n_bd
  have hxl := ho.1
  have hg1 := ho.lt g1 rfl
  have hcap := ho.cap
  unfold maxLen at hcap
  obtain ⟨hcap1, hcap2⟩ := hcap
  obtain ⟨W0, hW0⟩ : ∃ W0, W0 = w.alloc (.cells #[.int .i64 F.n, .slice aA F.n cA, .slice aS F.n cS, .slice aM F.n cM, .slice aI F.n cI] 93) := ⟨_, rfl⟩
  have kT : Blk W0 w.heap.size 93 #[.int .i64 F.n, .slice aA F.n cA, .slice aS F.n cS, .slice aM F.n cM, .slice aI F.n cI] := by rw [hW0]; exact Blk.new _ _ _ rfl
  have gr0 : w.grownBy W0 (some g1) := by rw [hW0]; exact World.grownBy_alloc _ _ _
  have ho0 : Own W0 B (.slice (some ⟨g1, 0, none⟩) xs.length c1) xs := by rw [hW0]; exact ho.alloc _
  obtain ⟨si, rfl⟩ := Int.eq_ofNat_of_zero_le hs0
  have HW := Lib.hid hW0
  have HO := Lib.hid ho0
  have HL := Lib.hid hl
  clear hW0 ho0 hl ho
  go_enter Try.func90, Try.ntmps90
  go_wp2_with fail
  rw [← HW.out, HL.out]
  go_loopw [12] (fun iv wr => ∃ (k : Nat), iv = .int .i64 k ∧ k ≤ xs.length ∧ Hid (Own wr B (.slice (some ⟨g1, 0, none⟩) xs.length c1) (addTo F xs ys si k)) ∧ Hid (w.grownBy wr (some g1)) ∧ Blk wr w.heap.size 93 #[.int .i64 F.n, .slice aA F.n cA, .slice aS F.n cS, .slice aM F.n cM, .slice aI F.n cI]) (fun iv _ => xs.length - (intOf iv).toNat)
  case atStart => exact ⟨0, rfl, Nat.zero_le _, HO.out, gr0, kT⟩
  case round =>
    obtain ⟨k, rfl, hk, ho, hgr, kR⟩ := hrel
    by_cases hkl : k < xs.length
    · have hky : k < ys.length := by rw [HL.out]; exact hkl
      have hbr : Below wt.heap.size wt wr := hbt.grown hgr.out (by have := hbt.size; omega) (fun j hj => by injection hj; omega)
      obtain ⟨gb, ob, rfl, hbb, hc2⟩ := (hy.grow hgr.out (fun p hp e => by injection e with e; exact hne p hp e)).at_ (by omega)
      have h2 := hc2 k hky
      have hlen := addTo_len F xs ys si k
      have h1 := ho.out.cell (j := k) (by rw [hlen]; exact hkl)
      have hf1 := ho.out.frozen k
      rw [addTo_nth F xs ys si k (by omega), if_neg (by omega)] at h1
      have hxr := hm _ (nth_mem hkl)
      have hyr := hm2 _ (nth_mem hky)
      obtain ⟨x, hx⟩ := Int.eq_ofNat_of_zero_le hxr.1
      obtain ⟨y, hy'⟩ := Int.eq_ofNat_of_zero_le hyr.1
      have hres : addTo F xs ys si (k + 1) = (addTo F xs ys si k).set k (F.add x (F.mul si y)) := by rw [addTo, hx, hy']
      rw [hx] at h1 hxr
      rw [hy'] at h2 hyr
      have hMb := mul_bd ok si y
      obtain ⟨m, hmm⟩ := Int.eq_ofNat_of_zero_le hMb.1
      obtain ⟨bM, oM, bm, om, cm, rfl, m1, m2⟩ := tab_at (tM.below hbr) (i := si) (j := y) (by omega) (by omega)
      obtain ⟨bA, oA, ba, oa, ca, rfl, a1, a2⟩ := tab_at (tA.below hbr) (i := x) (j := m) (by omega) (by omega)
      rw [hmm] at m2 hres hMb
      obtain ⟨D, hD⟩ : ∃ D, D = F.add x m := ⟨_, rfl⟩
      rw [← hD] at a2 hres
      have t1 : wr.cell? ⟨w.heap.size, 1, none⟩ = some (.slice (some ⟨bA, oA, none⟩) F.n cA) := kR.cell 1
      have t3 : wr.cell? ⟨w.heap.size, 3, none⟩ = some (.slice (some ⟨bM, oM, none⟩) F.n cM) := kR.cell 3
      have lx : x < F.n := by omega
      have ly : y < F.n := by omega
      have ls : si < F.n := by omega
      have lm : m < F.n := by omega
      have HRES := Lib.hid hres
      have KR := Lib.hid kR
      clear hres hD hmm hx hy' hc2 hlen kR hm hm2 tA tS tM tI hbt hne hy hxr hyr hMb hbr
      go_wp2_with fail
      go_region
      go_wp2
      go_roundw
      case rel =>
        have hs := ho.out.set k D
        refine ⟨k + 1, by go_num, by omega, ?_, grown_drew (grown_trans_row hgr.out hs.2), KR.out.far (by show w.heap.size ≠ g1; omega) _⟩
        show Own _ _ _ _
        rw [HRES.out]
        exact hs.1
      case measure => simp only [intOf]; omega
    · have hke : k = xs.length := by omega
      have HE := Lib.hid hke
      clear hke
      go_wp2
      go_end0
      exact ⟨rfl, by have o := ho.out; rw [HE.out] at o; exact o, hgr.out⟩
end Go.Proofs.Ytgmgpcaahanmiaa

/-
  Walk: the first row that is not zero at a column: the impl's.
-/
namespace Go.Proofs.Ytgmgpcaahanmiaa
open Go.RowKit

/-- The index of the first row that holds p, or -1. -/
def firstOfL (p : List Int → Bool) (xss : List (List Int)) : Int := match xss.findIdx? p with
  | some i => i
  | none => -1
theorem firstOfL_yes {p : List Int → Bool} {xss : List (List Int)} {k : Nat} (hk : k < xss.length) (hp : p (nthL xss k) = true) (h : ∀ j, j < k → p (nthL xss j) = false) : firstOfL p xss = k := by
  have : xss.findIdx? p = some k := by
    rw [List.findIdx?_eq_some_iff_getElem]
    refine ⟨hk, by rw [← nthL_lt hk]; exact hp, fun j hj => ?_⟩
    have := h j hj
    rw [nthL_lt (by omega)] at this
    rw [this]; simp
  rw [firstOfL, this]
theorem firstOfL_no {p : List Int → Bool} {xss : List (List Int)} (h : ∀ j, j < xss.length → p (nthL xss j) = false) : firstOfL p xss = -1 := by
  have : xss.findIdx? p = none := by
    rw [List.findIdx?_eq_none_iff]
    intro x hx
    obtain ⟨i, hi, rfl⟩ := List.getElem_of_mem hx
    have := h i hi
    rwa [nthL_lt hi] at this
  rw [firstOfL, this]
def notAt (c : Nat) (xs : List Int) : Bool := nth xs c != 0
theorem nthL_drop (xss : List (List Int)) (t j : Nat) : nthL (xss.drop t) j = nthL xss (t + j) := by simp [nthL]
/-- The row found from t on is the pivot's. -/
theorem firstOfL_piv (rows : List (List Int)) (c t : Nat) (ht : t ≤ rows.length) :
    (firstOfL (notAt c) (rows.drop t) = -1 ∧ pivAt rows c t = rows.length ∧ ∀ j, t ≤ j → j < rows.length → nth (nthL rows j) c = 0) ∨
    ∃ i : Nat, firstOfL (notAt c) (rows.drop t) = i ∧ t + i < rows.length ∧ pivAt rows c t = t + i ∧ nth (nthL rows (t + i)) c ≠ 0 := by
  cases h : (rows.drop t).findIdx? (notAt c) with
  | none =>
    rw [List.findIdx?_eq_none_iff] at h
    have hz : ∀ j, t ≤ j → j < rows.length → nth (nthL rows j) c = 0 := by
      intro j h1 h2
      have h3 : j - t < (rows.drop t).length := by rw [List.length_drop]; omega
      have := h _ (nthL_mem h3)
      rw [nthL_drop, show t + (j - t) = j by omega] at this
      simpa [notAt] using this
    exact .inl ⟨by rw [firstOfL, List.findIdx?_eq_none_iff.2 h], pivAt_none hz, hz⟩
  | some i =>
    have h0 := h
    rw [List.findIdx?_eq_some_iff_getElem] at h
    obtain ⟨hi, hp, hj⟩ := h
    have hil : t + i < rows.length := by rw [List.length_drop] at hi; omega
    rw [← nthL_lt hi, nthL_drop] at hp
    have hne : nth (nthL rows (t + i)) c ≠ 0 := by simpa [notAt] using hp
    refine .inr ⟨i, by rw [firstOfL, h0], hil, pivAt_hit (by omega) hil hne fun j h1 h2 => ?_, hne⟩
    have h3 := hj (j - t) (by omega)
    have h4 : j - t < (rows.drop t).length := by rw [List.length_drop]; omega
    rw [← nthL_lt h4, nthL_drop, show t + (j - t) = j by omega] at h3
    simpa [notAt] using h3

theorem reduce1_any (c gq : Nat) (a : Option Addr) (cp : Nat) (xs : List Int) (w : World) (hx : Rd w a xs) (hc : c < xs.length) (hq : w.cell? ⟨gq, 0, none⟩ = some (.int .i64 c)) :
    Calls Try.prog 214 #[.slice a xs.length cp, .pointer (some ⟨gq, 0, none⟩)] w fun e w' => e = .returned (.bool (notAt c xs)) ∧ w = w' := by
  obtain ⟨b1, o1, rfl, _, hcc⟩ := hx.at_ (by omega)
  have h1 := hcc c hc
  have hxl := hx.len
  unfold notAt
  generalize nth xs c = x at h1
  clear hcc hx
  go_enter Try.func214, Try.ntmps214
  go_wp2
  go_ret
  exact ⟨rfl, rfl⟩

set_option maxHeartbeats 400000 in
theorem idx_reduce (c gq n : Nat) (a : Option Addr) (cp : Nat) (xss : List (List Int)) (w : World) (hx : RdS w a xss) (hn : ∀ xs ∈ xss, xs.length = n) (hcn : c < n) (hq : w.cell? ⟨gq, 0, none⟩ = some (.int .i64 c)) :
    Calls Try.prog 139 #[.slice a xss.length cp, .func (.func 214) #[] #[.pointer (some ⟨gq, 0, none⟩)]] w fun e w' => e = .returned (.int .i64 (firstOfL (notAt c) xss)) ∧ w = w' := by
  have hxl := hx.len
  have hq0 := hq
  go_enter Try.func139, Try.ntmps139
  go_wp2_with fail
  go_loop [8] (fun i => ∃ k : Nat, i = .int .i64 k ∧ k ≤ xss.length ∧ Hid (∀ j, j < k → notAt c (nthL xss j) = false)) (fun i => xss.length - (intOf i).toNat)
  case atStart => exact ⟨0, rfl, Nat.zero_le _, fun j hj => by omega⟩
  case round =>
    obtain ⟨k, rfl, hk, hq⟩ := hrel
    by_cases hkl : k < xss.length
    · obtain ⟨b1, o1, rfl, _, hc⟩ := hx.at_ (by omega)
      obtain ⟨ai, ci, h1, hr1⟩ := hc k hkl
      have hln := hn _ (nthL_mem hkl)
      obtain ⟨r, hr⟩ : ∃ r, notAt c (nthL xss k) = r := ⟨_, rfl⟩
      have HR := Lib.hid hr
      have hcl := reduce1_any c gq ai ci (nthL xss k) w hr1 (by omega) hq0
      rw [hr, hln] at hcl
      rw [hln] at h1
      have HC := hide hcl
      clear hr hcl hc hx hr1 hln hn
      go_wp2_with fail
      refine (unhide HC).mono ?_
      rintro e w1 ⟨rfl, rfl⟩
      cases r
      · go_wp2
        go_round
        case rel =>
          refine ⟨k + 1, by go_num, by omega, fun j hj => ?_⟩
          rcases Nat.lt_succ_iff_lt_or_eq.1 hj with h | rfl
          · exact hq.out j h
          · exact HR.out
        case measure => simp [intOf]; omega
      · go_wp2
        go_ret
        exact ⟨ret_int (firstOfL_yes hkl HR.out hq.out).symm, rfl⟩
    · go_wp2
      go_ret
      exact ⟨ret_int (firstOfL_no (fun j hj => hq.out j (by omega))).symm, rfl⟩
end Go.Proofs.Ytgmgpcaahanmiaa

/-
  Plain mathematics: the program's way of reducing (rows exchanged, scaled in place, multiples added where they are needed) is the spec's.
-/
namespace Go.Proofs.Ytgmgpcaahanmiaa
open Go.RowKit

section
variable {F : FD}
theorem sub_zero' (ok : F.Ok) {a : Int} (ha : 0 ≤ a ∧ a < F.n) : F.sub a 0 = a := lin_zero (by have := ok.p2; omega) (-1) (by rw [ok.n_eq]; exact ha)
theorem mul_zero' (ok : F.Ok) (a : Int) : F.mul a 0 = 0 := mulF_zero (by have := ok.p2; omega) ok.len a
theorem zero_mul' (ok : F.Ok) (a : Int) : F.mul 0 a = 0 := zero_mulF (by have := ok.p2; omega) ok.len a
theorem add_neg_mul' (ok : F.Ok) (a c w : Int) : F.add a (F.mul (F.sub 0 c) w) = F.sub a (F.mul c w) := add_neg_mul (by have := ok.p2; omega) ok.len a c w
/-- Adding a negated multiple is lessening. -/
theorem addTo_less (ok : F.Ok) (xs ys : List Int) (x : Int) : addTo F xs ys (F.sub 0 x) xs.length = less F xs ys x := by
  refine eq_of_nth (by rw [addTo_len, less_len]) fun i hi => ?_
  rw [addTo_len] at hi
  rw [addTo_nth F xs ys _ _ (Nat.le_refl _), if_pos hi, less_nth F xs ys x hi, add_neg_mul' ok]
/-- A row less no multiple. -/
theorem less_zero (ok : F.Ok) {xs ys : List Int} (h : ∀ x ∈ xs, 0 ≤ x ∧ x < F.n) : less F xs ys 0 = xs := by
  refine eq_of_nth (less_len _ _ _ _) fun i hi => ?_
  rw [less_len] at hi
  rw [less_nth F xs ys 0 hi, zero_mul' ok, sub_zero' ok (h _ (nth_mem hi))]

/-- The first k places scaled. -/
def scaleTo (F : FD) (s : Int) (xs : List Int) : Nat → List Int
  | 0 => xs
  | k + 1 => (scaleTo F s xs k).set k (F.mul s (nth xs k))
theorem scaleTo_len (F : FD) (s : Int) (xs : List Int) (k : Nat) : (scaleTo F s xs k).length = xs.length := by
  induction k with
  | zero => rfl
  | succ k ih => rw [scaleTo, List.length_set, ih]
theorem scaleTo_nth (F : FD) (s : Int) (xs : List Int) (k : Nat) (hk : k ≤ xs.length) (i : Nat) : nth (scaleTo F s xs k) i = if i < k then F.mul s (nth xs i) else nth xs i := by
  induction k with
  | zero => rfl
  | succ k ih =>
    have ih := ih (by omega)
    rw [scaleTo]
    by_cases e : i = k
    · subst e
      rw [nth_set_same (by rw [scaleTo_len]; omega), if_pos (by omega)]
    · rw [nth_set_ne (by omega), ih]
      by_cases h : i < k
      · rw [if_pos h, if_pos (by omega)]
      · rw [if_neg h, if_neg (by omega)]
theorem scaleTo_all (F : FD) (s : Int) (xs : List Int) : scaleTo F s xs xs.length = scale F s xs := by
  refine eq_of_nth (by rw [scaleTo_len, scale_len]) fun i hi => ?_
  rw [scaleTo_len] at hi
  rw [scaleTo_nth F s xs _ (Nat.le_refl _), if_pos hi, scale_nth F s hi]

variable {c t : Nat} {rows : List (List Int)}
/-- One more row: nothing is done where the place is 0 already. -/
theorem elimTo_zero (ok : F.Ok) {n : Nat} (h : F.Mat n rows) {j : Nat} (hj : j < rows.length) (h0 : nth (nthL rows j) c = 0) : elimTo F c t rows (j + 1) = elimTo F c t rows j := by
  rw [elimTo]
  by_cases e : j = t
  · rw [if_pos e]
  · rw [if_neg e, h0, less_zero ok (Mat_nth h hj).2]
    refine eq_of_nthL (by rw [List.length_set]) fun i hi => ?_
    by_cases e2 : i = j
    · subst e2
      rw [nthL_set_same (by rw [elimTo_len]; exact hj), elimTo_nth i (by omega), if_neg (by omega)]
    · rw [nthL_set_ne (Ne.symm e2)]
theorem elimTo_step (ok : F.Ok) {j : Nat} (e : j ≠ t) : elimTo F c t rows (j + 1) = (elimTo F c t rows j).set j (addTo F (nthL rows j) (nthL rows t) (F.sub 0 (nth (nthL rows j) c)) (nthL rows j).length) := by
  rw [elimTo, if_neg e, addTo_less ok]
/-- The rows at t and i exchanged. -/
def swapped (rows : List (List Int)) (t i : Nat) : List (List Int) := (rows.set t (nthL rows i)).set i (nthL rows t)
theorem swapped_len (rows : List (List Int)) (t i : Nat) : (swapped rows t i).length = rows.length := by simp [swapped]
theorem swapped_self {t : Nat} (ht : t < rows.length) : swapped rows t t = rows := by
  refine eq_of_nthL (swapped_len _ _ _) fun i hi => ?_
  rw [swapped_len] at hi
  unfold swapped
  by_cases e : i = t
  · subst e
    rw [nthL_set_same (by rw [List.length_set]; exact hi)]
  · rw [nthL_set_ne (Ne.symm e), nthL_set_ne (Ne.symm e)]
theorem swapped_top {i : Nat} (ht : t < rows.length) (hi : i < rows.length) : nthL (swapped rows t i) t = nthL rows i := by
  unfold swapped
  by_cases e : t = i
  · subst e
    rw [nthL_set_same (by rw [List.length_set]; exact hi)]
  · rw [nthL_set_ne (Ne.symm e), nthL_set_same ht]
theorem swapped_Mat {n : Nat} (h : F.Mat n rows) {i : Nat} (ht : t < rows.length) (hi : i < rows.length) : F.Mat n (swapped rows t i) := by
  refine Mat_of fun j hj => ?_
  rw [swapped_len] at hj
  unfold swapped
  by_cases e : j = i
  · subst e
    rw [nthL_set_same (by rw [List.length_set]; exact hi)]
    exact Mat_nth h ht
  · rw [nthL_set_ne (Ne.symm e)]
    by_cases e2 : j = t
    · subst e2
      rw [nthL_set_same ht]
      exact Mat_nth h hi
    · rw [nthL_set_ne (Ne.symm e2)]
      exact Mat_nth h hj
/-- Exchanged and scaled. -/
theorem swapped_topped {i : Nat} (ht : t < rows.length) (hi : i < rows.length) : (swapped rows t i).set t (scale F (F.inv (nth (nthL rows i) c)) (nthL rows i)) = topped F c t rows i := by
  refine eq_of_nthL (by rw [List.length_set, swapped_len, topped_len]) fun j hj => ?_
  rw [List.length_set, swapped_len] at hj
  unfold topped
  by_cases e : j = t
  · subst e
    rw [nthL_set_same (by rw [swapped_len]; exact hj), nthL_set_same (by rw [List.length_set]; exact hj)]
  · rw [nthL_set_ne (Ne.symm e), nthL_set_ne (Ne.symm e)]
    unfold swapped
    by_cases e2 : j = i
    · subst e2
      rw [nthL_set_same (by rw [List.length_set]; exact hj), nthL_set_same hj]
    · rw [nthL_set_ne (Ne.symm e2), nthL_set_ne (Ne.symm e), nthL_set_ne (Ne.symm e2)]
theorem topped_top (F : FD) (c : Nat) {i : Nat} (ht : t < rows.length) : nthL (topped F c t rows i) t = scale F (F.inv (nth (nthL rows i) c)) (nthL rows i) := by
  unfold topped
  rw [nthL_set_same (by rw [List.length_set]; exact ht)]
/-- One more column. -/
theorem red_skip {xss : List (List Int)} {k : Nat} {piv : List Int} (h : red F xss k = (rows, piv)) (hz : pivAt rows k piv.length = rows.length) : red F xss (k + 1) = (rows, piv) := by
  rw [red, h, stepR, if_neg]
  rintro ⟨_, h2⟩
  rw [show ((rows, piv) : List (List Int) × List Int).1 = rows from rfl, show ((rows, piv) : List (List Int) × List Int).2 = piv from rfl, hz] at h2
  exact Nat.lt_irrefl _ h2
theorem red_go {xss : List (List Int)} {k i : Nat} {piv : List Int} (h : red F xss k = (rows, piv)) (ht : piv.length < rows.length) (hp : pivAt rows k piv.length = i) (hi : i < rows.length) :
    red F xss (k + 1) = (elimTo F k piv.length (topped F k piv.length rows i) rows.length, piv ++ [(k : Int)]) := by
  rw [red, h, stepR]
  show (if piv.length < rows.length ∧ pivAt rows k piv.length < rows.length then (redOne F k piv.length rows (pivAt rows k piv.length), piv ++ [(k : Int)]) else (rows, piv)) = _
  rw [hp, if_pos ⟨ht, hi⟩, redOne]
end
end Go.Proofs.Ytgmgpcaahanmiaa

