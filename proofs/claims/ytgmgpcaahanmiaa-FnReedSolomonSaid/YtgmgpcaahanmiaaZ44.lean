/-
  Walks: CodeHas on both sides. Printed by gen_cwhas.py.
-/
import Derived.BigQuiet
import Derived.BigRegion
import Derived.ChangeOld
import Derived.Deep.DeepCutAuto
import Derived.Deep.DeepMust
import Derived.Deep.DrawnRows
import Derived.Deep.Draws
import Derived.Deep.OwnRows
import Derived.Deep.QuietTactic
import Derived.Deep.RegionHeld3
import Derived.Deep.Slices
import Derived.IntWalk
import Derived.Laws.Rows
import Derived.Lib.Hide
import Derived.Maps.AppendAt
import Derived.OpenShut
import Derived.OwnWalk
import Derived.ProofKit
import Derived.ShutString
import Derived.StillTailTactics
import Derived.Test.YtgmgpcaahanmiaaProg
import Derived.Test.YtgmgpcaahanmiaaRows
import Derived.WalkKit
import Derived.WalkLawsBesides
import Derived.WalkSpells
import Derived.Test.YtgmgpcaahanmiaaZ8
import Derived.Test.YtgmgpcaahanmiaaZ26
import Derived.Test.YtgmgpcaahanmiaaZ42
import Derived.Test.YtgmgpcaahanmiaaZ43
set_option linter.unusedVariables false
set_option linter.unusedSimpArgs false
namespace Go.Proofs.Ytgmgpcaahanmiaa
open Go.RowKit
attribute [local go_sem ↓] Go.wp_at_zero Go.wp_at_succ
/-- Whether a list is a word of a code. -/
def hasV (F : FD) (n : Nat) (m : List (List Int)) (v : List Int) : Bool := if v.length = n ∧ elems F.n v = true then decide ((form F (m ++ [v]) n).length = m.length) else false
def hasRes (p d : Int) (xs : List Int) (m : List (List Int)) (v : List Int) : Bool := okC p d xs m && hasV (fdR p d xs) (nthL m 0).length m v
theorem GC.has_rest {F : FD} {n : Nat} {m : List (List Int)} (h : GC F n m) {v : List Int} (hv : v.length = n ∧ ∀ x ∈ v, 0 ≤ x ∧ x < F.n) : isZ (restTo F m (red F m n).2 v (red F m n).2.length) = decide ((form F (m ++ [v]) n).length = m.length) := by
  obtain ⟨pv, hpv, hE, hS⟩ := form_ech h.good h.mat
  have h1 := rank_iff h.good h.mat hv
  rw [h.fix] at hE h1
  have h2 := rest_iff h.good hE hv
  have hl : pv.length = m.length := hE.len
  rw [hpv, List.length_map, hl]
  have h3 : isZ (restTo F m (pv.map fun (x : Nat) => (x : Int)) v m.length) = true ↔ ∀ x ∈ restTo F m (pv.map fun (x : Nat) => (x : Int)) v m.length, x = 0 := by
    rw [isZ, Bool.not_eq_true', List.any_eq_false]
    refine ⟨fun h x hx => ?_, fun h x hx => ?_⟩
    · have := h x hx
      simpa [notZero] using this
    · simp [notZero, h x hx]
  rw [Bool.eq_iff_iff, h3, h2, decide_eq_true_eq, h1]
theorem okC_okM {p d : Int} {xs : List Int} {m : List (List Int)} (h : okC p d xs m = true) : okM p d xs m = true := by
  rw [okC, Bool.and_eq_true] at h
  exact h.1
theorem GC.piv_bd {F : FD} {n : Nat} {m : List (List Int)} (h : GC F n m) : (red F m n).2.length = m.length ∧ ∀ j, j < (red F m n).2.length → ∃ p : Nat, nth (red F m n).2 j = (p : Int) ∧ p < n := by
  obtain ⟨pv, hpv, hE, _⟩ := form_ech h.good h.mat
  rw [h.fix] at hE
  refine ⟨by rw [hpv, List.length_map, hE.len], fun j hj => ?_⟩
  have hj' : j < pv.length := by rw [hpv, List.length_map] at hj; exact hj
  refine ⟨pv.getD j 0, ?_, hE.lt j hj'⟩
  rw [hpv, nth_lt (by rw [List.length_map]; exact hj'), List.getElem_map, List.getD_eq_getElem?_getD, List.getElem?_eq_getElem hj']
  rfl
set_option maxRecDepth 100000 in
set_option maxHeartbeats 3200000 in
theorem spanHas_any (F : FD) (ap : Option Addr) (cp : Nat) (ra : Option Addr) (rc : Nat) (m : List (List Int)) (b : Option Addr) (cb : Nat) (v : List Int) (n : Nat) (w : World) (hR : Rd w ap F.poly) (hm : RdS w ra m) (hy : Rd w b v) (hC : GC F n m) (hok : okM F.p F.k F.poly m = true) (ed : I64 F.k) :
    Calls Try.prog 104 #[.agg #[.int .i64 F.p, .int .i64 F.k, .slice ap F.poly.length cp], .slice ra m.length rc, .slice b v.length cb] w fun e w' => e = .returned (.bool (hasV F n m v)) ∧ Below w.heap.size w w' := by
  have hml := hm.len
  have hvl0 := hy.len
  have ok := hC.good.ok
  obtain ⟨n2, n64⟩ := ok.n_bd
  have hm1 := hC.m1
  have hm0 : 0 < m.length := by omega
  have hn1 := hC.n1
  have hn32 := hC.n32
  obtain ⟨W0, hHW⟩ : ∃ z, z = w.alloc (.cells #[.int .i64 F.p, .int .i64 F.k, .slice ap F.poly.length cp] 34) := ⟨_, rfl⟩
  have b0 : Below w.heap.size w W0 := by rw [hHW]; exact (Below.refl _ _).alloc (Nat.le_refl _) _
  have k0 : Blk W0 w.heap.size 34 #[.int .i64 F.p, .int .i64 F.k, .slice ap F.poly.length cp] := by rw [hHW]; exact Blk.new _ _ _ rfl
  have sk0 : w.heap.size < W0.heap.size := k0.lt
  have HW := Lib.hid hHW
  clear hHW
  have hV := validMatrix_any F.p F.k ap cp F.poly ra rc m W0 (hR.below b0) (hm.below b0) ed
  rw [hok] at hV
  obtain ⟨gb, ob, rfl, hgb, hcc⟩ := (hm.below b0).at_ hm1
  obtain ⟨ai, ci, hr0, _⟩ := hcc 0 hm1
  rw [Nat.add_zero, hC.hn] at hr0
  have HV := hide hV
  have hdef : hasV F n m v = if v.length = n ∧ elems F.n v = true then decide ((form F (m ++ [v]) n).length = m.length) else false := rfl
  clear hV hcc hok
  by_cases hle : v.length = n
  ·
    have hbq : ((v.length : Int) != (n : Int)) = false := by rw [hle]; simp
    have hFS := fun W => fieldSize_any F ap cp W ok
    have hE := fun W h => areIn_any F.n b cb v W (by omega) (by omega) ((hy.below b0).below h)
    have HFS := hide hFS
    cases he : elems F.n v with
    | false =>
      have HN := Lib.hid (show hasV F n m v = false by rw [hdef, if_neg (by rw [he]; simp)])
      rw [he] at hE
      have HE := hide hE
      clear hE hFS he hle hdef hC
      have f0 := k0.cell 0
      have f1 := k0.cell 1
      have f2 := k0.cell 2
      go_enter Try.func104, Try.ntmps104
      go_upto_region 1 with fail
      rw [← HW.out]
      go_wp2_with fail
      refine (unhide HV).mono ?_
      rintro e w1 ⟨rfl, b1⟩
      have k1 := k0.below b1 k0.lt
      have hr1 := (b1.cell (p := ⟨gb, ob, none⟩) hgb).trans hr0
      clear f0 f1 f2
      have f0 := k1.cell 0
      have f1 := k1.cell 1
      have f2 := k1.cell 2
      have bb1 := b0.trans (b1.mono (Nat.le_of_lt sk0))
      go_wp2_with fail
      refine (unhide HFS w1).mono ?_
      rintro e w2 ⟨rfl, b2⟩
      go_wp2_with fail
      refine (unhide HE w2 (Below.chain b1 b2)).mono ?_
      rintro e w3 ⟨rfl, b3⟩
      have c3 := Below.chain (Below.chain b1 b2) b3
      have bb3 := b0.trans (c3.mono (Nat.le_of_lt sk0))
      go_wp2
      go_ret
      exact ⟨ret_bool (by rw [HN.out]), bb3⟩
    | true =>
      have hEl := elems_iff he
      have hres := hC.has_rest ⟨hle, hEl⟩
      have hdef2 : hasV F n m v = isZ (restTo F m (red F m n).2 v (red F m n).2.length) := by rw [hdef, if_pos ⟨hle, he⟩, hres]
      obtain ⟨hpl, hpb⟩ := hC.piv_bd
      have hfix := hC.fix
      rw [he] at hE
      have hT := fun W (h : Below W0.heap.size W0 W) => tablesOf_any F ap cp W ((hR.below b0).below h) ok
      have hRE := fun tv W (h : Below W0.heap.size W0 W) hT => reduce_any F tv (some ⟨gb, ob, none⟩) rc m n W hT hC.good ((hm.below b0).below h) hm0 hC.mat
      rw [hfix] at hRE
      obtain ⟨piv, hpiv⟩ : ∃ piv, piv = (red F m n).2 := ⟨_, rfl⟩
      rw [← hpiv] at hRE hpl hpb hdef2
      have hIN : ∀ tv (a1 : Option Addr) (c1 : Nat) (a2 : Option Addr) (c2 : Nat) W (_ : Below W0.heap.size W0 W) (_ : Tabs W F tv) (_ : RdS W a1 m) (_ : Rd W a2 piv), Calls Try.prog 183 #[tv, .slice a1 m.length c1, .slice a2 piv.length c2, .slice b v.length cb] W fun e w' => e = .returned (.bool (isZ (restTo F m piv v piv.length))) ∧ Below W.heap.size W w' := fun tv a1 c1 a2 c2 W h hT r1 r2 => by
        rw [hle]
        exact inSpan_any F tv a1 c1 m a2 c2 piv b cb v n W hT hC.good r1 r2 ((hy.below b0).below h) hC.mat hn1 hn32 (by omega) hpb hle hEl
      have HE := hide hE
      have HT := hide hT
      have HRE := hide hRE
      have HIN := hide hIN
      have HD := Lib.hid hdef2
      clear hE hFS he hle hdef hC hT hRE hIN hdef2 hres hpl hpb hfix hpiv hEl
      have f0 := k0.cell 0
      have f1 := k0.cell 1
      have f2 := k0.cell 2
      go_enter Try.func104, Try.ntmps104
      go_upto_region 1 with fail
      rw [← HW.out]
      go_wp2_with fail
      refine (unhide HV).mono ?_
      rintro e w1 ⟨rfl, b1⟩
      have k1 := k0.below b1 k0.lt
      have hr1 := (b1.cell (p := ⟨gb, ob, none⟩) hgb).trans hr0
      clear f0 f1 f2
      have f0 := k1.cell 0
      have f1 := k1.cell 1
      have f2 := k1.cell 2
      have bb1 := b0.trans (b1.mono (Nat.le_of_lt sk0))
      go_wp2_with fail
      refine (unhide HFS w1).mono ?_
      rintro e w2 ⟨rfl, b2⟩
      go_wp2_with fail
      refine (unhide HE w2 (Below.chain b1 b2)).mono ?_
      rintro e w3 ⟨rfl, b3⟩
      have c3 := Below.chain (Below.chain b1 b2) b3
      have bb3 := b0.trans (c3.mono (Nat.le_of_lt sk0))
      have k3 := k0.below c3 k0.lt
      clear f0 f1 f2
      have f0 := k3.cell 0
      have f1 := k3.cell 1
      have f2 := k3.cell 2
      go_wp2_with fail
      refine (unhide HT _ c3).mono ?_
      rintro e w4 ⟨tv, rfl, t4, b4⟩
      obtain ⟨aA, cA, aS, cS, aM, cM, aI, cI, rfl, t4A, t4S, t4M, t4I⟩ := t4
      obtain ⟨W5, hH5⟩ : ∃ z, z = w4.alloc (.cells #[.int .i64 F.n, .slice aA F.n cA, .slice aS F.n cS, .slice aM F.n cM, .slice aI F.n cI] 93) := ⟨_, rfl⟩
      have b5 : Below w4.heap.size w4 W5 := by rw [hH5]; exact (Below.refl _ _).alloc (Nat.le_refl _) _
      have kT : Blk W5 w4.heap.size 93 #[.int .i64 F.n, .slice aA F.n cA, .slice aS F.n cS, .slice aM F.n cM, .slice aI F.n cI] := by rw [hH5]; exact Blk.new _ _ _ rfl
      have H5 := Lib.hid hH5
      clear hH5
      have t5 : Tabs W5 F (.agg #[.int .i64 F.n, .slice aA F.n cA, .slice aS F.n cS, .slice aM F.n cM, .slice aI F.n cI]) := ⟨aA, cA, aS, cS, aM, cM, aI, cI, rfl, t4A.below b5, t4S.below b5, t4M.below b5, t4I.below b5⟩
      have c5 := Below.chain (Below.chain c3 b4) b5
      clear f0 f1 f2
      have g0 := kT.cell 0
      have g1 := kT.cell 1
      have g2 := kT.cell 2
      have g3 := kT.cell 3
      have g4 := kT.cell 4
      have T5 := hide t5
      clear t5 t4A t4S t4M t4I
      go_upto_region 4 with fail
      rw [← H5.out]
      go_wp2_with fail
      refine (unhide HRE _ W5 c5 (unhide T5)).mono ?_
      rintro e w6 ⟨v6, u6, d6, rfl, o6, q6, b6⟩
      obtain ⟨a1, c1, rfl, r1⟩ := o6.form
      obtain ⟨a2, c2, rfl, r2, _⟩ := q6.form
      have c6 := Below.chain c5 b6
      have bb6 := b0.trans (c6.mono (Nat.le_of_lt sk0))
      have kT6 := kT.below b6 kT.lt
      have T6 := hide ((unhide T5).below b6)
      have R1 := hide r1
      have R2 := hide r2
      clear g0 g1 g2 g3 g4 o6 q6 r1 r2
      have g0 := kT6.cell 0
      have g1 := kT6.cell 1
      have g2 := kT6.cell 2
      have g3 := kT6.cell 3
      have g4 := kT6.cell 4
      go_wp2_with fail
      refine (unhide HIN _ a1 c1 a2 c2 w6 c6 (unhide T6) (unhide R1) (unhide R2)).mono ?_
      rintro e w7 ⟨rfl, b7⟩
      go_wp2
      go_ret
      exact ⟨ret_bool (by rw [HD.out]), bb6.trans (b7.mono bb6.size)⟩
  · have hbq : ((v.length : Int) != (n : Int)) = true := by rw [bne_iff_ne]; omega
    have HN := Lib.hid (show hasV F n m v = false by rw [hdef, if_neg (fun h => hle h.1)])
    clear hle hdef hC
    have f0 := k0.cell 0
    have f1 := k0.cell 1
    have f2 := k0.cell 2
    go_enter Try.func104, Try.ntmps104
    go_upto_region 1 with fail
    rw [← HW.out]
    go_wp2_with fail
    refine (unhide HV).mono ?_
    rintro e w1 ⟨rfl, b1⟩
    have k1 := k0.below b1 k0.lt
    have hr1 := (b1.cell (p := ⟨gb, ob, none⟩) hgb).trans hr0
    clear f0 f1 f2
    have f0 := k1.cell 0
    have f1 := k1.cell 1
    have f2 := k1.cell 2
    have bb1 := b0.trans (b1.mono (Nat.le_of_lt sk0))
    go_wp2
    go_ret
    exact ⟨ret_bool (by rw [HN.out]), bb1⟩
end Go.Proofs.Ytgmgpcaahanmiaa

/-
  Walk: whether a vector is in the span, the spec. Printed by gen_cwhas.py.
-/
namespace Go.Proofs.Ytgmgpcaahanmiaa
open Go.RowKit
attribute [local go_sem ↓] Go.wp_at_zero Go.wp_at_succ
set_option maxRecDepth 100000 in
set_option maxHeartbeats 3200000 in
theorem l17Has_any (g : Nat) (F : FD) (ra : Option Addr) (rc : Nat) (m : List (List Int)) (b : Option Addr) (cb : Nat) (v : List Int) (n : Nat) (w : World) (hF : PF w g F) (hm : RdS w ra m) (hy : Rd w b v) (hC : GC F n m) (hvl : v.length = n) (hv : ∀ x ∈ v, 0 ≤ x ∧ x < F.n) :
    Calls Try.prog 142 #[.pointer (some ⟨g, 0, none⟩), .slice ra m.length rc, .slice b v.length cb] w fun e w' => e = .returned (.bool (decide ((form F (m ++ [v]) n).length = m.length))) ∧ Below w.heap.size w w' := by
  have hml := hm.len
  have hm1 := hC.m1
  have hm8 := hC.m8
  have hn1 := hC.n1
  have hMs := Mat_snoc hC.mat ⟨hvl, hv⟩
  have hcp := l17Own_any ra rc m w hm
  have hF1 := fun (a : Option Addr) (c : Nat) W (h : Below w.heap.size w W) (hx : RdS W a (m ++ [v])) => l17Form_any g F a c (m ++ [v]) n W (hF.below h) hC.good hx (by simp) hMs
  have hF2 := fun W (h : Below w.heap.size w W) => l17Form_any g F ra rc m n W (hF.below h) hC.good (hm.below h) hm1 hC.mat
  rw [hC.fix] at hF2
  have hfl : (form F (m ++ [v]) n).length ≤ 1073741824 := by
    have h1 := red_piv F (m ++ [v]) n
    have h2 := form_len F (m ++ [v]) n
    simp at h1
    omega
  obtain ⟨fm, hfm⟩ : ∃ fm, fm = form F (m ++ [v]) n := ⟨_, rfl⟩
  rw [← hfm] at hF1 hfl ⊢
  have hwl : (m ++ [v]).length = m.length + 1 := by simp
  rw [hwl] at hF1
  clear hwl
  have hvb : ∀ p, b = some p → p.block < w.heap.size := fun p hp => by
    obtain ⟨gb, ob, e, hgb, _⟩ := hy.at_ (by omega)
    rw [hp] at e
    injection e with e
    rw [e]
    exact hgb
  have HCP := hide hcp
  have HF1 := hide hF1
  have HF2 := hide hF2
  have HVB := hide hvb
  have HY := hide hy
  clear hcp hF1 hF2 hMs hfm hvb hy hm hF hC hv hvl
  go_enter Try.func142, Try.ntmps142
  go_wp2_with fail
  refine (unhide HCP).mono ?_
  rintro e w1 ⟨v1, rfl, o1, b1⟩
  obtain ⟨a1, c1, rfl, _⟩ := o1.form
  have z1 := b1.size
  have O1 := hide o1
  clear o1
  go_wp2_with (at_builtin; refine wpList_append_read rfl (.tmp 9) (.tmp 11) rfl rfl ((unhide O1).toH.belw ((Below.refl _ _).alloc (Nat.le_refl _) _) (Nat.le_refl _)) _ rfl ((Blk.new w1 22 #[.slice b v.length cb] rfl).cell 0) (((unhide HY).below b1).below ((Below.refl _ _).alloc (Nat.le_refl _) _)) (unhide HVB) (by simp; omega) (by omega) ?_; intro a2 c2 w2 r2 b2)
  have c2' : Below w.heap.size w w2 := (b1.alloc z1 _).trans b2
  refine (unhide HF1 a2 c2 w2 c2' r2).mono ?_
  rintro e w3 ⟨v3, rfl, o3, b3⟩
  obtain ⟨a3, c3, rfl, _⟩ := o3.form
  have c3' := c2'.trans (b3.mono c2'.size)
  go_wp2_with fail
  refine (unhide HF2 w3 c3').mono ?_
  rintro e w4 ⟨v4, rfl, o4, b4⟩
  obtain ⟨a4, c4, rfl, _⟩ := o4.form
  have c4' := c3'.trans (b4.mono c3'.size)
  clear o3 o4
  by_cases heq : fm.length = m.length
  · have hbe : ((fm.length : Int) == (m.length : Int)) = true := by rw [beq_iff_eq]; omega
    have hd := Lib.hid (show decide (fm.length = m.length) = true by rw [decide_eq_true_eq]; exact heq)
    have hbe2 : (fm.length == m.length) = true := by rw [beq_iff_eq]; omega
    clear heq
    go_wp2
    go_ret
    exact ⟨ret_bool (by rw [hd.out]), c4'⟩
  · have hbe : ((fm.length : Int) == (m.length : Int)) = false := by rw [beq_eq_false_iff_ne]; omega
    have hbe2 : (fm.length == m.length) = false := by rw [beq_eq_false_iff_ne]; omega
    have hd := Lib.hid (show decide (fm.length = m.length) = false by rw [decide_eq_false_iff_not]; exact heq)
    clear heq
    go_wp2
    go_ret
    exact ⟨ret_bool (by rw [hd.out]), c4'⟩
end Go.Proofs.Ytgmgpcaahanmiaa

/-
  Walks: CodeHas on both sides. Printed by gen_ch.py.
-/
namespace Go.Proofs.Ytgmgpcaahanmiaa
open Go.RowKit
attribute [local go_sem ↓] Go.wp_at_zero Go.wp_at_succ
set_option maxRecDepth 100000 in
set_option maxHeartbeats 3200000 in
theorem implCH_any (p d : Int) (a : Option Addr) (c : Nat) (xs : List Int) (ra : Option Addr) (rc : Nat) (m : List (List Int)) (b : Option Addr) (cb : Nat) (v : List Int) (w : World) (hx : Rd w a xs) (hm : RdS w ra m) (hy : Rd w b v) (ed : I64 d) : Calls Try.prog 24 #[.agg #[.int .i64 p, .int .i64 d, .slice a xs.length c, .slice ra m.length rc], .slice b v.length cb] w fun e w' => e = .returned (.bool (hasRes p d xs m v)) ∧ Below w.heap.size w w' := by
  have hml := hm.len
  have hvl0 := hy.len
  generalize hR : hasRes p d xs m v = r
  obtain ⟨W0, hHW⟩ : ∃ z, z = w.alloc (.cells #[.int .i64 p, .int .i64 d, .slice a xs.length c, .slice ra m.length rc] 37) := ⟨_, rfl⟩
  have b0 : Below w.heap.size w W0 := by rw [hHW]; exact (Below.refl _ _).alloc (Nat.le_refl _) _
  have k0 : Blk W0 w.heap.size 37 #[.int .i64 p, .int .i64 d, .slice a xs.length c, .slice ra m.length rc] := by rw [hHW]; exact Blk.new _ _ _ rfl
  have sk0 : w.heap.size < W0.heap.size := k0.lt
  have HW := Lib.hid hHW
  clear hHW
  have hV := implVC_any p d a c xs ra rc m W0 (hx.below b0) (hm.below b0) ed
  cases hk : okC p d xs m with
  | false =>
    have HN := Lib.hid (show r = false by rw [← hR, hasRes, hk]; rfl)
    rw [hk] at hV
    have HV := hide hV
    clear hV hk hR
    have f0 := k0.cell 0
    have f1 := k0.cell 1
    have f2 := k0.cell 2
    have f3 := k0.cell 3
    go_enter Try.func24, Try.ntmps24
    go_upto_region 1 with fail
    rw [← HW.out]
    go_wp2_with fail
    refine (unhide HV).mono ?_
    rintro e w1 ⟨rfl, b1⟩
    have k1 := k0.below b1 k0.lt
    clear f0 f1 f2 f3
    have f0 := k1.cell 0
    have f1 := k1.cell 1
    have f2 := k1.cell 2
    have f3 := k1.cell 3
    have bb1 := b0.trans (b1.mono (Nat.le_of_lt sk0))
    go_wp2
    go_ret
    exact ⟨ret_bool (by rw [HN.out]), bb1⟩
  | true =>
    obtain ⟨F, n, rfl, rfl, rfl, hC⟩ := okC_gc hk
    have hRR : r = hasV F n m v := by rw [← hR, hasRes, hk, fdR_eq, hC.hn]; rfl
    have hok := okC_okM hk
    rw [hk] at hV
    have hS := fun W (h : Below W0.heap.size W0 W) => spanHas_any F a c ra rc m b cb v n W ((hx.below b0).below h) ((hm.below b0).below h) ((hy.below b0).below h) hC hok ed
    have HV := hide hV
    have HS := hide hS
    have HRR := Lib.hid hRR
    clear hV hk hR hS hRR hok hC
    have f0 := k0.cell 0
    have f1 := k0.cell 1
    have f2 := k0.cell 2
    have f3 := k0.cell 3
    go_enter Try.func24, Try.ntmps24
    go_upto_region 1 with fail
    rw [← HW.out]
    go_wp2_with fail
    refine (unhide HV).mono ?_
    rintro e w1 ⟨rfl, b1⟩
    have k1 := k0.below b1 k0.lt
    clear f0 f1 f2 f3
    have f0 := k1.cell 0
    have f1 := k1.cell 1
    have f2 := k1.cell 2
    have f3 := k1.cell 3
    have bb1 := b0.trans (b1.mono (Nat.le_of_lt sk0))
    go_wp2_with fail
    refine (unhide HS w1 b1).mono ?_
    rintro e w2 ⟨rfl, b2⟩
    go_wp2
    go_ret
    exact ⟨ret_bool (by rw [HRR.out]), bb1.trans (b2.mono bb1.size)⟩
set_option maxRecDepth 100000 in
set_option maxHeartbeats 3200000 in
theorem specCH_any (p d : Int) (a : Option Addr) (c : Nat) (xs : List Int) (ra : Option Addr) (rc : Nat) (m : List (List Int)) (b : Option Addr) (cb : Nat) (v : List Int) (w : World) (hx : Rd w a xs) (hm : RdS w ra m) (hy : Rd w b v) : Calls Try.prog 54 #[.agg #[.int .i64 p, .int .i64 d, .slice a xs.length c, .slice ra m.length rc], .slice b v.length cb] w fun e w' => e = .returned (.bool (hasRes p d xs m v)) ∧ Below w.heap.size w w' := by
  have hml := hm.len
  have hvl0 := hy.len
  generalize hR : hasRes p d xs m v = r
  obtain ⟨W0, hHW⟩ : ∃ z, z = w.alloc (.cells #[.int .i64 p, .int .i64 d, .slice a xs.length c, .slice ra m.length rc] 37) := ⟨_, rfl⟩
  have b0 : Below w.heap.size w W0 := by rw [hHW]; exact (Below.refl _ _).alloc (Nat.le_refl _) _
  have k0 : Blk W0 w.heap.size 37 #[.int .i64 p, .int .i64 d, .slice a xs.length c, .slice ra m.length rc] := by rw [hHW]; exact Blk.new _ _ _ rfl
  have sk0 : w.heap.size < W0.heap.size := k0.lt
  have HW := Lib.hid hHW
  clear hHW
  have hC0 : PC W0 w.heap.size p d a c xs ra rc m := ⟨⟨k0.cell 0, k0.cell 1, k0.cell 2, hx.below b0⟩, k0.cell 3, hm.below b0⟩
  have hV := l18Ok_any w.heap.size p d a c xs ra rc m W0 hC0
  cases hk : okC p d xs m with
  | false =>
    have HN := Lib.hid (show r = false by rw [← hR, hasRes, hk]; rfl)
    rw [hk] at hV
    have HV := hide hV
    clear hV hk hR hC0
    have f0 := k0.cell 0
    have f1 := k0.cell 1
    have f2 := k0.cell 2
    have f3 := k0.cell 3
    go_enter Try.func54, Try.ntmps54
    go_upto_region 1 with fail
    rw [← HW.out]
    go_wp2_with fail
    refine (unhide HV).mono ?_
    rintro e w1 ⟨rfl, b1⟩
    have k1 := k0.below b1 k0.lt
    clear f0 f1 f2 f3
    have f0 := k1.cell 0
    have f1 := k1.cell 1
    have f2 := k1.cell 2
    have f3 := k1.cell 3
    have bb1 := b0.trans (b1.mono (Nat.le_of_lt sk0))
    go_wp2
    go_ret
    exact ⟨ret_bool (by rw [HN.out]), bb1⟩
  | true =>
    obtain ⟨F, n, rfl, rfl, rfl, hC⟩ := okC_gc hk
    have ok := hC.good.ok
    obtain ⟨n2, n64⟩ := ok.n_bd
    have hm1 := hC.m1
    have hm0 : 0 < m.length := by omega
    have hRR : r = if v.length = n ∧ elems F.n v = true then decide ((form F (m ++ [v]) n).length = m.length) else false := by rw [← hR, hasRes, hk, fdR_eq, hC.hn]; rfl
    obtain ⟨gb, ob, ai, ci, rfl, hr0, hgb⟩ := hC0.row0 hm1
    rw [hC.hn] at hr0
    rw [hk] at hV
    have HV := hide hV
    clear hV hk hR
    by_cases hle : v.length = n
    ·
      have hbq : ((v.length : Int) != (n : Int)) = false := by rw [hle]; simp
      have hE := fun W (h : Below W0.heap.size W0 W) => l17Vector_any w.heap.size F b cb v W (hC0.below h).1.pf ok ((hy.below b0).below h)
      cases he : elems F.n v with
      | false =>
        have HN := Lib.hid (show r = false by rw [hRR, if_neg (by rw [he]; simp)])
        rw [he] at hE
        have HE := hide hE
        clear hE he hRR hle hC hC0
        have f0 := k0.cell 0
        have f1 := k0.cell 1
        have f2 := k0.cell 2
        have f3 := k0.cell 3
        go_enter Try.func54, Try.ntmps54
        go_upto_region 1 with fail
        rw [← HW.out]
        go_wp2_with fail
        refine (unhide HV).mono ?_
        rintro e w1 ⟨rfl, b1⟩
        have k1 := k0.below b1 k0.lt
        clear f0 f1 f2 f3
        have f0 := k1.cell 0
        have f1 := k1.cell 1
        have f2 := k1.cell 2
        have f3 := k1.cell 3
        have bb1 := b0.trans (b1.mono (Nat.le_of_lt sk0))
        have hr1 := (b1.cell (p := ⟨gb, ob, none⟩) hgb).trans hr0
        go_wp2_with fail
        refine (unhide HE w1 b1).mono ?_
        rintro e w2 ⟨rfl, q2⟩
        have c2 := b1.trans (q2.below _)
        have bb2 := b0.trans (c2.mono (Nat.le_of_lt sk0))
        have k2 := k0.below c2 k0.lt
        clear f0 f1 f2 f3
        have f0 := k2.cell 0
        have f1 := k2.cell 1
        have f2 := k2.cell 2
        have f3 := k2.cell 3
        go_wp2
        go_ret
        exact ⟨ret_bool (by rw [HN.out]), bb2⟩
      | true =>
        have hEl := elems_iff he
        have hH := fun W (h : Below W0.heap.size W0 W) => l17Has_any w.heap.size F (some ⟨gb, ob, none⟩) rc m b cb v n W (hC0.below h).1.pf (hC0.below h).2.2 ((hy.below b0).below h) hC hle hEl
        rw [if_pos ⟨hle, he⟩] at hRR
        rw [he] at hE
        have HE := hide hE
        have HH := hide hH
        have HRR := Lib.hid hRR
        clear hE he hRR hle hC hC0 hH hEl
        have f0 := k0.cell 0
        have f1 := k0.cell 1
        have f2 := k0.cell 2
        have f3 := k0.cell 3
        go_enter Try.func54, Try.ntmps54
        go_upto_region 1 with fail
        rw [← HW.out]
        go_wp2_with fail
        refine (unhide HV).mono ?_
        rintro e w1 ⟨rfl, b1⟩
        have k1 := k0.below b1 k0.lt
        clear f0 f1 f2 f3
        have f0 := k1.cell 0
        have f1 := k1.cell 1
        have f2 := k1.cell 2
        have f3 := k1.cell 3
        have bb1 := b0.trans (b1.mono (Nat.le_of_lt sk0))
        have hr1 := (b1.cell (p := ⟨gb, ob, none⟩) hgb).trans hr0
        go_wp2_with fail
        refine (unhide HE w1 b1).mono ?_
        rintro e w2 ⟨rfl, q2⟩
        have c2 := b1.trans (q2.below _)
        have bb2 := b0.trans (c2.mono (Nat.le_of_lt sk0))
        have k2 := k0.below c2 k0.lt
        clear f0 f1 f2 f3
        have f0 := k2.cell 0
        have f1 := k2.cell 1
        have f2 := k2.cell 2
        have f3 := k2.cell 3
        go_wp2_with fail
        refine (unhide HH w2 c2).mono ?_
        rintro e w3 ⟨rfl, b3⟩
        go_wp2
        go_ret
        exact ⟨ret_bool (by rw [HRR.out]), bb2.trans (b3.mono bb2.size)⟩
    · have hbq : ((v.length : Int) != (n : Int)) = true := by rw [bne_iff_ne]; omega
      have HN := Lib.hid (show r = false by rw [hRR, if_neg (fun h => hle h.1)])
      clear hle hRR hC hC0
      have f0 := k0.cell 0
      have f1 := k0.cell 1
      have f2 := k0.cell 2
      have f3 := k0.cell 3
      go_enter Try.func54, Try.ntmps54
      go_upto_region 1 with fail
      rw [← HW.out]
      go_wp2_with fail
      refine (unhide HV).mono ?_
      rintro e w1 ⟨rfl, b1⟩
      have k1 := k0.below b1 k0.lt
      clear f0 f1 f2 f3
      have f0 := k1.cell 0
      have f1 := k1.cell 1
      have f2 := k1.cell 2
      have f3 := k1.cell 3
      have bb1 := b0.trans (b1.mono (Nat.le_of_lt sk0))
      have hr1 := (b1.cell (p := ⟨gb, ob, none⟩) hgb).trans hr0
      go_wp2
      go_ret
      exact ⟨ret_bool (by rw [HN.out]), bb1⟩
end Go.Proofs.Ytgmgpcaahanmiaa

