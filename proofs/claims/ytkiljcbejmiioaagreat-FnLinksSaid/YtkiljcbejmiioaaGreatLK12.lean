/-
  Texts joined.
-/
import Derived.Test.YtkiljcbejmiioaaGreatLK6
import Derived.Test.YtkiljcbejmiioaaGreatLK7
import Derived.Test.YtkiljcbejmiioaaGreatLK8
import Derived.Test.YtkiljcbejmiioaaGreatLK9
import Derived.Test.YtkiljcbejmiioaaGreatLK11
set_option linter.unusedVariables false
set_option linter.unusedSimpArgs false
set_option maxRecDepth 100000
set_option maxHeartbeats 40000000
namespace Go.Proofs.YtkiljcbejmiioaaGreat
open Go.RowKit
attribute [local go_sem ↓] Go.wp_at_zero Go.wp_at_succ
def okR (q : Int) (m : List (List Int)) : Bool := decide (1 ≤ m.length) && (decide (m.length ≤ 32) && (decide (1 ≤ (nthL m 0).length) && (decide ((nthL m 0).length ≤ 32) && m.all (fun r => r.length == (nthL m 0).length && elems q r))))
def okM (p d : Int) (xs : List Int) (m : List (List Int)) : Bool := okF p d xs && okR (p ^ d.toNat) m
theorem okR_true {q : Int} {m : List (List Int)} : okR q m = true ↔ 1 ≤ m.length ∧ m.length ≤ 32 ∧ 1 ≤ (nthL m 0).length ∧ (nthL m 0).length ≤ 32 ∧ ∀ r ∈ m, r.length = (nthL m 0).length ∧ elems q r = true := by
 simp only [okR, Bool.and_eq_true, decide_eq_true_eq, List.all_eq_true, beq_iff_eq]
theorem okM_true {p d : Int} {xs : List Int} {m : List (List Int)} (h : okM p d xs m = true) : ∃ F : FD, F.Good ∧ p = F.p ∧ d = (F.k : Int) ∧ xs = F.poly ∧ 1 ≤ m.length ∧ m.length ≤ 32 ∧ 1 ≤ (nthL m 0).length ∧ (nthL m 0).length ≤ 32 ∧ F.Mat (nthL m 0).length m := by
 rw [okM, Bool.and_eq_true] at h
 obtain ⟨F, hG, rfl, rfl, rfl⟩ := okF_good h.1
 rw [Int.toNat_natCast, hG.ok.n_eq, okR_true] at h
 obtain ⟨_, a, b, c, d, e⟩ := h
 exact ⟨F, hG, rfl, rfl, rfl, a, b, c, d, fun r hr => ⟨(e r hr).1, elems_true.1 (e r hr).2⟩⟩
theorem okR_no {q : Int} {m : List (List Int)} {k : Nat} (hk : k < m.length) (h : ((nthL m k).length == (nthL m 0).length && elems q (nthL m k)) = false) : okR q m = false := by
 have : m.all (fun r => r.length == (nthL m 0).length && elems q r) = false := by
  rw [List.all_eq_false]
  exact ⟨_, nthL_mem hk, by rw [h]; simp⟩
 rw [okR, this]; simp
theorem okR_yes {q : Int} {m : List (List Int)} (h1 : 1 ≤ m.length) (h2 : m.length ≤ 32) (h3 : 1 ≤ (nthL m 0).length) (h4 : (nthL m 0).length ≤ 32) (h : ∀ j, j < m.length → ((nthL m j).length == (nthL m 0).length && elems q (nthL m j)) = true) : okR q m = true := by
 rw [okR_true]
 refine ⟨h1, h2, h3, h4, fun r hr => ?_⟩
 obtain ⟨i, hi, rfl⟩ := List.getElem_of_mem hr
 have := h i hi
 rwa [nthL_lt hi, Bool.and_eq_true, beq_iff_eq] at this
theorem l03Size_qt (g : Nat) (F : FD) (w : World) (hF : PF w g F) (ok : F.Ok) :
    Calls Tryz.prog 80 #[.pointer (some ⟨g, 0, none⟩)] w fun e w' => e = .returned (.int .i64 F.n) ∧ Qt w w' := by
 have hp2 := ok.p2
 have hp64 := ok.p64
 have hk6 := ok.k6
 have hq := ok.q64
 have hpow := fun W => l03Power_any F.p F.k W (by omega) (by omega) (by omega) (by omega)
 rw [ok.n_eq] at hpow
 have HP := hide hpow
 have f0 := hF.1
 have f1 := hF.2.1
 clear hpow
 go_enter Tryz.func80, Tryz.ntmps80
 go_upto_region 1 with fail
 go_quiet ((go_at_call 115; exact Calls.quiet_of_same ((unhide HP _).mono fun _ _ h => ⟨h.1, h.2.symm⟩)))
 go_wp2
 go_ret
 exact ⟨rfl, Qt.one _ _⟩
theorem l17Vector_any (g : Nat) (F : FD) (a : Option Addr) (c : Nat) (xs : List Int) (w : World) (hF : PF w g F) (ok : F.Ok) (hx : Rd w a xs) :
    Calls Tryz.prog 33 #[.pointer (some ⟨g, 0, none⟩), .slice a xs.length c] w fun e w' => e = .returned (.bool (elems F.n xs)) ∧ Qt w w' := by
 have hxl := hx.len
 obtain ⟨n2, n64⟩ := ok.n_bd
 have hS := l03Size_qt g F w hF ok
 have HS := hide hS
 clear hS
 go_enter Tryz.func33, Tryz.ntmps33
 go_wp2_with fail
 refine (unhide HS).mono ?_
 rintro e w1 ⟨rfl, q1⟩
 have hx1 := hx.below (q1.below _)
 obtain ⟨q, hq⟩ : ∃ q, q = (F.n : Int) := ⟨_, rfl⟩
 have HQ := Lib.hid hq
 go_wp2_with fail
 go_loop [6] (fun i => ∃ k : Nat, i = .int .i64 k ∧ k ≤ xs.length ∧ Hid (∀ j, j < k → isElem F.n (nth xs j) = true)) (fun i => xs.length - (intOf i).toNat)
 case atStart => exact ⟨0, rfl, Nat.zero_le _, fun j hj => by omega⟩
 case round =>
  obtain ⟨k, rfl, hk, hqq⟩ := hrel
  by_cases hkl : k < xs.length
  · obtain ⟨b1, o1, rfl, _, hc⟩ := hx1.at_ (by omega)
    have h1 := hc k hkl
    have hcl := l00In_any (nth xs k) 0 ((F.n : Int) - 1) w1
    obtain ⟨r, hr⟩ : ∃ r, isElem F.n (nth xs k) = r := ⟨_, rfl⟩
    have HR := Lib.hid hr
    rw [isElem] at hr
    rw [hr] at hcl
    have HC := hide hcl
    clear hr hcl hc hq
    go_wp2_with fail
    refine (unhide HC).mono ?_
    rintro e w2 ⟨rfl, rfl⟩
    cases r
    · go_wp2
      go_ret
      exact ⟨ret_bool (elems_no hkl HR.out).symm, q1⟩
    · go_wp2
      go_round
      case rel =>
       refine ⟨k + 1, by go_num, by omega, fun j hj => ?_⟩
       rcases Nat.lt_succ_iff_lt_or_eq.1 hj with h | rfl
       · exact hqq.out j h
       · exact HR.out
      case measure => simp [intOf]; omega
  · go_wp2
    go_ret
    exact ⟨ret_bool (elems_yes (fun j hj => hqq.out j (by omega))).symm, q1⟩
theorem l17Ok_any (g : Nat) (p d : Int) (a : Option Addr) (c : Nat) (xs : List Int) (ra : Option Addr) (rc : Nat) (m : List (List Int)) (w : World) (hF : PR w g p d a c xs) (hx : RdS w ra m) : Calls Tryz.prog 78 #[.pointer (some ⟨g, 0, none⟩), .slice ra m.length rc] w fun e w' => e = .returned (.bool (okM p d xs m)) ∧ Below w.heap.size w w' := by
 have hxl := hx.len
 have hO := l03Ok_any g p d a c xs w hF
 obtain ⟨k0, hk0⟩ : ∃ k0, k0 = okF p d xs := ⟨_, rfl⟩
 rw [← hk0] at hO
 cases k0 with
 | false =>
  have HN := Lib.hid (show okM p d xs m = false by rw [okM, ← hk0]; rfl)
  have HO := hide hO
  clear hO hk0
  go_enter Tryz.func78, Tryz.ntmps78
  go_wp2_with fail
  refine (unhide HO).mono ?_
  rintro e w1 ⟨rfl, b1⟩
  go_wp2
  go_ret
  exact ⟨ret_bool (by rw [HN.out]), b1⟩
 | true =>
  obtain ⟨F, hG, rfl, rfl, rfl⟩ := okF_good hk0.symm
  have ok := hG.ok
  have hM0 : okM F.p F.k F.poly m = okR F.n m := by rw [okM, ← hk0, Int.toNat_natCast, ok.n_eq]; rfl
  have HM0 := Lib.hid hM0
  have HO := hide hO
  clear hO hk0 hM0
  by_cases h1 : m.length = 0
  ·
   have HN := Lib.hid (show okM F.p F.k F.poly m = false by rw [HM0.out, okR]; simp [h1])
   have hb : ((m.length : Int) == 0) = true := by rw [beq_iff_eq]; omega
   clear h1
   go_enter Tryz.func78, Tryz.ntmps78
   go_wp2_with fail
   refine (unhide HO).mono ?_
   rintro e w1 ⟨rfl, b1⟩
   go_wp2
   go_ret
   exact ⟨ret_bool (by rw [HN.out]), b1⟩
  ·
   have hb : ((m.length : Int) == 0) = false := by rw [beq_eq_false_iff_ne]; omega
   have hm1 : 0 < m.length := by omega
   clear h1
   by_cases h2 : m.length ≤ 32
   ·
    have h2' : ¬ (32 : Int) < (m.length : Int) := by omega
    obtain ⟨r0, hr0⟩ : ∃ r0, r0 = nthL m 0 := ⟨_, rfl⟩
    have hcell : ∀ W, RdS W ra m → ∃ gb ob ai ci, ra = some ⟨gb, ob, none⟩ ∧ W.cell? ⟨gb, ob, none⟩ = some (.slice ai r0.length ci) := fun W hW => by
     obtain ⟨gb, ob, e, _, hc⟩ := hW.at_ hm1
     obtain ⟨ai, ci, hc1, _⟩ := hc 0 hm1
     exact ⟨gb, ob, ai, ci, e, by rw [hr0]; exact hc1⟩
    have HCELL := hide hcell
    clear hcell
    have hr0l : r0.length ≤ 1073741824 := by
     obtain ⟨gb, ob, e, _, hc⟩ := hx.at_ hm1
     obtain ⟨ai, ci, _, hr⟩ := hc 0 hm1
     rw [hr0]; exact hr.len
    by_cases h3 : r0.length = 0
    ·
     have HN := Lib.hid (show okM F.p F.k F.poly m = false by rw [HM0.out, okR, ← hr0]; simp [h3])
     have hb3 : ((r0.length : Int) == 0) = true := by rw [beq_iff_eq]; omega
     clear h3 hr0
     go_enter Tryz.func78, Tryz.ntmps78
     go_wp2_with fail
     refine (unhide HO).mono ?_
     rintro e w1 ⟨rfl, b1⟩
     have hx1 := hx.below b1
     obtain ⟨gb, ob, a0, c0, rfl, hc1⟩ := unhide HCELL w1 hx1
     go_wp2
     go_ret
     exact ⟨ret_bool (by rw [HN.out]), b1⟩
    ·
     have hb3 : ((r0.length : Int) == 0) = false := by rw [beq_eq_false_iff_ne]; omega
     have hr1 : 0 < r0.length := by omega
     clear h3
     by_cases h4 : r0.length ≤ 32
     ·
      have h4' : ¬ (32 : Int) < (r0.length : Int) := by omega
      have HR0 := Lib.hid hr0
      clear hr0
      go_enter Tryz.func78, Tryz.ntmps78
      go_wp2_with fail
      refine (unhide HO).mono ?_
      rintro e w1 ⟨rfl, b1⟩
      have hx1 := hx.below b1
      obtain ⟨gb, ob, a0, c0, rfl, hc1⟩ := unhide HCELL w1 hx1
      have hF1 := hF.below b1
      go_wp2_with fail
      go_loopw [5] (fun i wr => ∃ k : Nat, i = .int .i64 k ∧ k ≤ m.length ∧ Hid (∀ j, j < k → ((nthL m j).length == (nthL m 0).length && elems F.n (nthL m j)) = true) ∧ Qt w1 wr) (fun i _ => m.length - (intOf i).toNat)
      case atStart => exact ⟨0, rfl, Nat.zero_le _, fun j hj => by omega, Qt.refl _⟩
      case round =>
       obtain ⟨k, rfl, hk, hqq, hq⟩ := hrel
       have hbq := hq.below w1.heap.size
       by_cases hkl : k < m.length
       · obtain ⟨gc, oc, ec, _, hcc⟩ := (hx1.below hbq).at_ (by omega)
         injection ec with ec
         injection ec with ec1 ec2 _
         subst ec1
         subst ec2
         obtain ⟨ai, ci, h1, hr⟩ := hcc k hkl
         have hc1r : wr.cell? ⟨gb, ob, none⟩ = some (.slice a0 r0.length c0) := (hbq.cell (p := ⟨gb, ob, none⟩) (World.block_lt_of_cell? _ _ hc1)).trans hc1
         have hFr := (hF1.below hbq).pf
         have hcl := fun n => l17Vector_any g F ai ci (nthL m k) (wr.drewN n) (hFr.below (Below.drewn n)) ok (hr.drewN n)
         have HQQ := hide (okR_no (q := (F.n : Int)) hkl)
         obtain ⟨row, hrow⟩ : ∃ row, row = nthL m k := ⟨_, rfl⟩
         have HROW := Lib.hid hrow
         have hrl := hr.len
         rw [← hrow] at h1 hcl hrl
         obtain ⟨e, he⟩ : ∃ e, e = elems F.n row := ⟨_, rfl⟩
         rw [← he] at hcl
         have HE := Lib.hid he
         have HC := hide hcl
         clear hcl he hrow hcc hr hc1 hFr
         by_cases hln : row.length = r0.length
         · have hbn : ((row.length : Int) != (r0.length : Int)) = false := by rw [bne_eq_false_iff_eq]; omega
           have hbn2 : (row.length != r0.length) = false := by rw [bne_eq_false_iff_eq]; exact hln
           have HLN := Lib.hid hln
           clear hln
           cases e
           · have HN := Lib.hid (show okM F.p F.k F.poly m = false by rw [HM0.out]; exact unhide HQQ (by rw [← HROW.out, ← HE.out]; simp))
             go_upto_region 6 with fail
             go_quiet ((go_at_call 33; exact Calls.quiet_of (unhide HC _)))
             go_wp2
             go_ret
             exact ⟨ret_bool (by rw [HN.out]), b1.trans (((hq.trans (Qt.one _ _)).below _).mono b1.size)⟩
           · go_upto_region 6 with fail
             go_quiet ((go_at_call 33; exact Calls.quiet_of (unhide HC _)))
             go_wp2
             go_roundw
             case rel =>
              refine ⟨k + 1, by go_num, by omega, fun j hj => ?_, hq.trans (Qt.one _ _)⟩
              rcases Nat.lt_succ_iff_lt_or_eq.1 hj with h | rfl
              · exact hqq.out j h
              · rw [← HROW.out, ← HE.out, ← HR0.out, HLN.out]; simp
             case measure => simp [intOf]; omega
         · have hbn : ((row.length : Int) != (r0.length : Int)) = true := by rw [bne_iff_ne]; omega
           have hbn2 : (row.length != r0.length) = true := by rw [bne_iff_ne]; exact hln
           have HN := Lib.hid (show okM F.p F.k F.poly m = false by
            rw [HM0.out]; exact unhide HQQ (by rw [← HROW.out, ← HR0.out, beq_eq_false_iff_ne.2 hln]; rfl))
           clear hln
           go_upto_region 6 with fail
           go_quiet ((go_at_call 33; exact Calls.quiet_of (unhide HC _)))
           go_wp2
           go_ret
           exact ⟨ret_bool (by rw [HN.out]), b1.trans (((hq.trans (Qt.one _ _)).below _).mono b1.size)⟩
       · have HN := Lib.hid (show okM F.p F.k F.poly m = true by
           rw [HM0.out]
           exact okR_yes (by omega) h2 (by rw [← HR0.out]; omega) (by rw [← HR0.out]; exact h4) (fun j hj => hqq.out j (by omega)))
         go_wp2
         go_ret
         exact ⟨ret_bool (by rw [HN.out]), b1.trans (hbq.mono b1.size)⟩
     ·
      have HN := Lib.hid (show okM F.p F.k F.poly m = false by rw [HM0.out, okR, ← hr0]; simp [h4])
      have h4' : (32 : Int) < (r0.length : Int) := by omega
      clear hr0
      go_enter Tryz.func78, Tryz.ntmps78
      go_wp2_with fail
      refine (unhide HO).mono ?_
      rintro e w1 ⟨rfl, b1⟩
      have hx1 := hx.below b1
      obtain ⟨gb, ob, a0, c0, rfl, hc1⟩ := unhide HCELL w1 hx1
      go_wp2
      go_ret
      exact ⟨ret_bool (by rw [HN.out]), b1⟩
   ·
    have HN := Lib.hid (show okM F.p F.k F.poly m = false by rw [HM0.out, okR]; simp [h2])
    have h2' : (32 : Int) < (m.length : Int) := by omega
    go_enter Tryz.func78, Tryz.ntmps78
    go_wp2_with fail
    refine (unhide HO).mono ?_
    rintro e w1 ⟨rfl, b1⟩
    go_wp2
    go_ret
    exact ⟨ret_bool (by rw [HN.out]), b1⟩
end Go.Proofs.YtkiljcbejmiioaaGreat
namespace Go.Proofs.YtkiljcbejmiioaaGreat
open Go.RowKit
attribute [local go_sem ↓] Go.wp_at_zero Go.wp_at_succ
def badRow (q : Int) (n0 : Nat) (r : List Int) : Bool := !(r.length == n0 && elems q r)
theorem okR_any {q : Int} {m : List (List Int)} (h1 : 1 ≤ m.length) (h2 : m.length ≤ 32) (h3 : 1 ≤ (nthL m 0).length) (h4 : (nthL m 0).length ≤ 32) : okR q m = !m.any (badRow q (nthL m 0).length) := by
 have e : m.all (fun r => r.length == (nthL m 0).length && elems q r) = !m.any (badRow q (nthL m 0).length) := by
  rw [List.all_eq_not_any_not]; rfl
 rw [okR, e]
 simp [h1, h2, h3, h4]
theorem validMatrix1_any (q : Int) (gm gq : Nat) (ra : Option Addr) (rc mm : Nat) (n0 : Nat) (a0 : Option Addr) (c0 : Nat) (a : Option Addr) (c : Nat) (xs : List Int) (w : World) (h1 : 1 ≤ q) (h2 : q ≤ 64) (hx : Rd w a xs) (hm0 : 0 < mm) (hn0 : n0 ≤ 32) (hm : w.cell? ⟨gm, 0, none⟩ = some (.slice ra mm rc)) (hr : ∃ b o, ra = some ⟨b, o, none⟩ ∧ w.cell? ⟨b, o, none⟩ = some (.slice a0 n0 c0)) (hq : w.cell? ⟨gq, 0, none⟩ = some (.int .i64 q)) : Calls Tryz.prog 129 #[.slice a xs.length c, .pointer (some ⟨gm, 0, none⟩), .pointer (some ⟨gq, 0, none⟩)] w fun e w' => e = .returned (.bool (badRow q n0 xs)) ∧ Below w.heap.size w w' := by
 have hxl := hx.len
 obtain ⟨b, o, rfl, hc⟩ := hr
 have hA := areIn_any q a c xs w h1 h2 hx
 obtain ⟨e, he⟩ : ∃ e, e = elems q xs := ⟨_, rfl⟩
 rw [← he] at hA
 have HE := Lib.hid he
 have HA := hide hA
 unfold badRow
 rw [← he]
 clear he hA
 by_cases hl : xs.length = n0
 ·
  have hb : ((xs.length : Int) != (n0 : Int)) = false := by rw [bne_eq_false_iff_eq]; omega
  have hb2 : (xs.length != n0) = false := by rw [bne_eq_false_iff_eq]; exact hl
  have HL := Lib.hid (show (xs.length == n0) = true by rw [beq_iff_eq]; exact hl)
  clear hl
  go_enter Tryz.func129, Tryz.ntmps129
  go_wp2_with fail
  refine (unhide HA).mono ?_
  rintro e w1 ⟨rfl, b1⟩
  go_wp2
  go_ret
  exact ⟨ret_bool (by rw [HL.out]; simp), b1⟩
 ·
  have hb : ((xs.length : Int) != (n0 : Int)) = true := by rw [bne_iff_ne]; omega
  have hb2 : (xs.length != n0) = true := by rw [bne_iff_ne]; exact hl
  have HL := Lib.hid (show (xs.length == n0) = false by rw [beq_eq_false_iff_ne]; exact hl)
  clear hl
  go_enter Tryz.func129, Tryz.ntmps129
  go_wp2
  go_ret
  exact ⟨ret_bool (by rw [HL.out]; simp), Below.refl _ _⟩
theorem ent_vm1 : ∀ (args : Array Value) (w : World), (callFunc 129 args).run Tryz.prog w = .ok (.enter 129 args) w := fun _ _ => by kernel_rfl
theorem validMatrix_any (p d : Int) (a : Option Addr) (c : Nat) (xs : List Int) (ra : Option Addr) (rc : Nat) (m : List (List Int)) (w : World) (hx : Rd w a xs) (hm : RdS w ra m) (ed : I64 d) : Calls Tryz.prog 89 #[.agg #[.int .i64 p, .int .i64 d, .slice a xs.length c], .slice ra m.length rc] w fun e w' => e = .returned (.bool (okM p d xs m)) ∧ Below w.heap.size w w' := by
 have hml := hm.len
 obtain ⟨W0, hW0⟩ : ∃ z, z = (w.alloc (.cells #[.int .i64 p, .int .i64 d, .slice a xs.length c] 30)).alloc (.cells #[.slice ra m.length rc] 24) := ⟨_, rfl⟩
 have b0 : Below w.heap.size w W0 := by rw [hW0]; exact ((Below.refl _ _).alloc (Nat.le_refl _) _).alloc (by simp) _
 have kF : Blk W0 w.heap.size 30 #[.int .i64 p, .int .i64 d, .slice a xs.length c] := by rw [hW0]; exact (Blk.new _ _ _ rfl).alloc _
 have kM : Blk W0 (w.heap.size + 1) 24 #[.slice ra m.length rc] := by rw [hW0]; exact Blk.new _ _ _ (by simp)
 have s0 : w.heap.size + 1 < W0.heap.size := kM.lt
 have HW := Lib.hid hW0
 have hx0 := hx.below b0
 have hm0 := hm.below b0
 have hO := validField_any p d a c xs W0 hx0 ed
 clear hW0
 obtain ⟨k0, hk0⟩ : ∃ k0, k0 = okF p d xs := ⟨_, rfl⟩
 rw [← hk0] at hO
 cases k0 with
 | false =>
  have HN := Lib.hid (show okM p d xs m = false by rw [okM, ← hk0]; rfl)
  have HO := hide hO
  clear hO hk0
  go_enter Tryz.func89, Tryz.ntmps89
  go_wp2_with fail
  rw [← HW.out]
  refine (unhide HO).mono ?_
  rintro e w1 ⟨rfl, b1⟩
  have hb1 := b0.trans (b1.mono (by omega))
  have kM1 := kM.below b1 kM.lt
  have m0 := kM1.cell 0
  go_wp2
  go_ret
  exact ⟨ret_bool (by rw [HN.out]), hb1⟩
 | true =>
  obtain ⟨F, hG, rfl, rfl, rfl⟩ := okF_good hk0.symm
  have ok := hG.ok
  obtain ⟨n2, n64⟩ := ok.n_bd
  have hM0 : okM F.p F.k F.poly m = okR F.n m := by rw [okM, ← hk0, Int.toNat_natCast, ok.n_eq]; rfl
  have HM0 := Lib.hid hM0
  have HO := hide hO
  clear hO hk0 hM0
  have hI1 := fun W => within_any (m.length : Int) 1 32 W
  by_cases h1 : inB (m.length : Int) 1 32 = true
  ·
   obtain ⟨m1, m32⟩ := inB_true.1 h1
   rw [h1] at hI1
   have HI1 := hide hI1
   clear hI1 h1
   obtain ⟨r0, hr0⟩ : ∃ r0, r0 = nthL m 0 := ⟨_, rfl⟩
   have hcell : ∀ W, RdS W ra m → ∃ gb ob ai ci, ra = some ⟨gb, ob, none⟩ ∧ W.cell? ⟨gb, ob, none⟩ = some (.slice ai r0.length ci) := fun W hW => by
    obtain ⟨gb, ob, e, _, hc⟩ := hW.at_ (by omega)
    obtain ⟨ai, ci, hc1, _⟩ := hc 0 (by omega)
    exact ⟨gb, ob, ai, ci, e, by rw [hr0]; exact hc1⟩
   have HCELL := hide hcell
   clear hcell
   have hI2 := fun W => within_any (r0.length : Int) 1 32 W
   by_cases h2 : inB (r0.length : Int) 1 32 = true
   ·
    obtain ⟨r1, r32⟩ := inB_true.1 h2
    rw [h2] at hI2
    have HI2 := hide hI2
    have hS := fun W => fieldSize_any F a c W ok
    have HS := hide hS
    have HAN := Lib.hid (okR_any (q := (F.n : Int)) (m := m) (by omega) (by omega) (by rw [← hr0]; omega) (by rw [← hr0]; omega))
    have HR0 := Lib.hid hr0
    clear hI2 h2 hS hr0
    go_enter Tryz.func89, Tryz.ntmps89
    go_wp2_with fail
    rw [← HW.out]
    refine (unhide HO).mono ?_
    rintro e w1 ⟨rfl, b1⟩
    have hb1 := b0.trans (b1.mono (by omega))
    have kM1 := kM.below b1 kM.lt
    have m0 := kM1.cell 0
    have hm1 := hm0.below b1
    obtain ⟨gb, ob, a0, c0, rfl, hc1⟩ := unhide HCELL w1 hm1
    go_wp2_with fail
    refine (sizeS_any _ _ _ _).mono ?_
    rintro e w2 ⟨rfl, rfl⟩
    go_wp2_with fail
    refine (unhide HI1 _).mono ?_
    rintro e w2 ⟨rfl, rfl⟩
    go_wp2_with fail
    refine (size_any _ _ _ _).mono ?_
    rintro e w2 ⟨rfl, rfl⟩
    go_wp2_with fail
    refine (unhide HI2 _).mono ?_
    rintro e w2 ⟨rfl, rfl⟩
    have kF1 := kF.below b1 kF.lt
    have e0 := kF1.cell 0
    have e1 := kF1.cell 1
    have e2 := kF1.cell 2
    have z1 := b1.size
    go_wp2_with fail
    refine (unhide HS _).mono ?_
    rintro e w2 ⟨rfl, b2⟩
    have z2 := b2.size
    have hb2 := hb1.trans (b2.mono (by omega))
    have kM2 := kM1.below b2 kM1.lt
    have hm2 := hm1.below b2
    clear e0 e1 e2 m0 hc1
    obtain ⟨W2, hHQ⟩ : ∃ z, z = w2.alloc (.cells #[.int .i64 (F.n : Int)] 2) := ⟨_, rfl⟩
    have bQ : Below w2.heap.size w2 W2 := by rw [hHQ]; exact (Below.refl _ _).alloc (Nat.le_refl _) _
    have kQ : Blk W2 w2.heap.size 2 #[.int .i64 (F.n : Int)] := by rw [hHQ]; exact Blk.new _ _ _ rfl
    have skQ : w2.heap.size < W2.heap.size := kQ.lt
    have HQ := Lib.hid hHQ
    clear hHQ
    have hb3 := hb2.trans (bQ.mono (by omega))
    have kM3 := kM2.below bQ kM2.lt
    have hm3 := hm2.below bQ
    have m3 := kM3.cell 0
    have hc := hasL2 129 (badRow F.n r0.length) (w.heap.size + 1) w2.heap.size (some ⟨gb, ob, none⟩) rc m W2 ent_vm1 hm3 (fun k ai ci W hk hr hbW => by
     obtain ⟨gb', ob', a0', c0', e', hc'⟩ := unhide HCELL W (hm3.below hbW)
     exact validMatrix1_any F.n (w.heap.size + 1) w2.heap.size (some ⟨gb, ob, none⟩) rc m.length r0.length a0' c0' ai ci (nthL m k) W (by omega) (by omega) hr (by omega) (by omega) ((kM3.below hbW kM3.lt).cell 0) ⟨gb', ob', e', hc'⟩ ((kQ.below hbW kQ.lt).cell 0))
    have HC := hide hc
    clear hc
    go_upto_region 4 with fail
    rw [← HQ.out]
    go_wp2_with fail
    refine (unhide HC).mono ?_
    rintro e w4 ⟨rfl, b4⟩
    go_wp2
    go_ret
    exact ⟨ret_bool (by rw [HM0.out, HAN.out, ← HR0.out]), hb3.trans (b4.mono (by omega))⟩
   ·
    have h2' : inB (r0.length : Int) 1 32 = false := by simpa using h2
    rw [h2'] at hI2
    have HI2 := hide hI2
    have HN := Lib.hid (show okM F.p F.k F.poly m = false by
     rw [HM0.out, Bool.eq_false_iff]
     intro hh
     rw [okR_true, ← hr0] at hh
     rw [inB_yes (by omega) (by omega)] at h2'
     cases h2')
    clear hI2 h2 h2' hr0
    go_enter Tryz.func89, Tryz.ntmps89
    go_wp2_with fail
    rw [← HW.out]
    refine (unhide HO).mono ?_
    rintro e w1 ⟨rfl, b1⟩
    have hb1 := b0.trans (b1.mono (by omega))
    have kM1 := kM.below b1 kM.lt
    have m0 := kM1.cell 0
    have hm1 := hm0.below b1
    obtain ⟨gb, ob, a0, c0, rfl, hc1⟩ := unhide HCELL w1 hm1
    go_wp2_with fail
    refine (sizeS_any _ _ _ _).mono ?_
    rintro e w2 ⟨rfl, rfl⟩
    go_wp2_with fail
    refine (unhide HI1 _).mono ?_
    rintro e w2 ⟨rfl, rfl⟩
    go_wp2_with fail
    refine (size_any _ _ _ _).mono ?_
    rintro e w2 ⟨rfl, rfl⟩
    go_wp2_with fail
    refine (unhide HI2 _).mono ?_
    rintro e w2 ⟨rfl, rfl⟩
    go_wp2
    go_ret
    exact ⟨ret_bool (by rw [HN.out]), hb1⟩
  ·
   have h1' : inB (m.length : Int) 1 32 = false := by simpa using h1
   rw [h1'] at hI1
   have HI1 := hide hI1
   have HN := Lib.hid (show okM F.p F.k F.poly m = false by
    rw [HM0.out, Bool.eq_false_iff]
    intro hh
    rw [okR_true] at hh
    rw [inB_yes (by omega) (by omega)] at h1'
    cases h1')
   clear hI1 h1 h1'
   go_enter Tryz.func89, Tryz.ntmps89
   go_wp2_with fail
   rw [← HW.out]
   refine (unhide HO).mono ?_
   rintro e w1 ⟨rfl, b1⟩
   have hb1 := b0.trans (b1.mono (by omega))
   have kM1 := kM.below b1 kM.lt
   have m0 := kM1.cell 0
   go_wp2_with fail
   refine (sizeS_any _ _ _ _).mono ?_
   rintro e w2 ⟨rfl, rfl⟩
   go_wp2_with fail
   refine (unhide HI1 _).mono ?_
   rintro e w2 ⟨rfl, rfl⟩
   go_wp2
   go_ret
   exact ⟨ret_bool (by rw [HN.out]), hb1⟩
end Go.Proofs.YtkiljcbejmiioaaGreat
