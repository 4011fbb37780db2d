/-
  Texts joined.
-/
import Derived.Test.YtgfcbmflnldicaaMX1
import Derived.Test.YtgfcbmflnldicaaMX2
import Derived.Test.YtgfcbmflnldicaaMX5
import Derived.Test.YtgfcbmflnldicaaMX6
import Derived.Test.YtgfcbmflnldicaaMX10
import Derived.Test.YtgfcbmflnldicaaMX11
import Derived.Test.YtgfcbmflnldicaaMX12
import Derived.Test.YtgfcbmflnldicaaMX13
import Derived.Test.YtgfcbmflnldicaaMX14
set_option linter.unusedVariables false
set_option linter.unusedSimpArgs false
set_option maxRecDepth 100000
set_option maxHeartbeats 40000000
namespace Go.Proofs.Ytgfcbmflnldicaa
open Go.RowKit
attribute [local go_sem ↓] Go.wp_at_zero Go.wp_at_succ
structure GC (F : FD) (n : Nat) (m : List (List Int)) : Prop where
 good : F.Good
 m1 : 1 ≤ m.length
 m8 : m.length ≤ 8
 n1 : 1 ≤ n
 n32 : n ≤ 32
 hn : (nthL m 0).length = n
 mat : F.Mat n m
 cap : capTo F.n 4096 m.length ≤ 4096
 fix : form F m n = m
def PC (w : World) (g : Nat) (p d : Int) (a : Option Addr) (c : Nat) (xs : List Int) (ra : Option Addr) (rc : Nat) (m : List (List Int)) : Prop :=
 PR w g p d a c xs ∧ w.cell? ⟨g, 3, none⟩ = some (.slice ra m.length rc) ∧ RdS w ra m
section
variable {w w' : World} {g : Nat} {p d : Int} {a : Option Addr} {c : Nat} {xs : List Int} {ra : Option Addr} {rc : Nat} {m : List (List Int)}
theorem PC.below (h : PC w g p d a c xs ra rc m) (hb : Below w.heap.size w w') : PC w' g p d a c xs ra rc m :=
 ⟨h.1.below hb, (hb.cell (p := ⟨g, 3, none⟩) h.1.lt).trans h.2.1, h.2.2.below hb⟩
end
end Go.Proofs.Ytgfcbmflnldicaa
namespace Go.Proofs.Ytgfcbmflnldicaa
open Go.RowKit
attribute [local go_sem ↓] Go.wp_at_zero Go.wp_at_succ
theorem inSpan_any (F : FD) (tv : Value) (ra : Option Addr) (rc : Nat) (rows : List (List Int)) (pa : Option Addr) (pc : Nat) (piv : List Int) (b : Option Addr) (cb : Nat) (v : List Int) (n : Nat) (w : World) (hT : Tabs w F tv) (hG : F.Good) (hx : RdS w ra rows) (hp : Rd w pa piv) (hy : Rd w b v) (hM : F.Mat n rows) (hn1 : 1 ≤ n) (hn : n ≤ 32) (hpl : piv.length ≤ rows.length) (hpb : ∀ j, j < piv.length → ∃ p : Nat, nth piv j = (p : Int) ∧ p < n) (hvl : v.length = n) (hv : ∀ x ∈ v, 0 ≤ x ∧ x < F.n) :
    Calls Try.prog 32 #[tv, .slice ra rows.length rc, .slice pa piv.length pc, .slice b n cb] w fun e w' => e = .returned (.bool (isZ (restTo F rows piv v piv.length))) ∧ Below w.heap.size w w' := by
 have hT0 := hT
 obtain ⟨aA, cA, aS, cS, aM, cM, aI, cI, rfl, tA, tS, tM, tI⟩ := hT
 have ok := hG.ok
 obtain ⟨n2, n64⟩ := ok.n_bd
 have hpll := hp.len
 have hxl := hx.len
 obtain ⟨W0, hHW⟩ : ∃ z, z = w.alloc (.cells #[.int .i64 F.n, .slice aA F.n cA, .slice aS F.n cS, .slice aM F.n cM, .slice aI F.n cI] 50) := ⟨_, rfl⟩
 have b0 : Below w.heap.size w W0 := by rw [hHW]; exact (Below.refl _ _).alloc (Nat.le_refl _) _
 have kT : Blk W0 w.heap.size 50 #[.int .i64 F.n, .slice aA F.n cA, .slice aS F.n cS, .slice aM F.n cM, .slice aI F.n cI] := by rw [hHW]; exact Blk.new _ _ _ rfl
 have skT : w.heap.size < W0.heap.size := kT.lt
 have HW := Lib.hid hHW
 clear hHW
 have hcl := clone_any b cb v W0 (hy.below b0)
 rw [hvl] at hcl
 have hrl := fun k => restTo_len F rows piv v k
 have hre := fun k => restTo_el ok piv (rows := rows) hv k
 rw [hvl] at hrl
 have hst : ∀ k, restTo F rows piv v (k + 1) = addTo F (restTo F rows piv v k) (nthL rows k) (F.sub 0 (nth (restTo F rows piv v k) (nth piv k).toNat)) n := fun k => by rw [restTo, hvl]
 have HCL := hide hcl
 have HX := hide (hx.below b0)
 have HP := hide (hp.below b0)
 have HMM := hide hM
 have HPB := hide hpb
 have HT := hide (hT0.below b0)
 have TS := hide (tS.below b0)
 have HRL := hide hrl
 have HRE := hide hre
 have HST := hide hst
 have h00 : restTo F rows piv v 0 = v := rfl
 have H00 := Lib.hid h00
 clear hcl hx hp hM hpb hT0 tA tS tM tI hrl hre hst hy hv hvl h00
 go_enter Try.func32, Try.ntmps32
 go_upto_region 1 with fail
 rw [← HW.out]
 go_wp2_with fail
 refine (unhide HCL).mono ?_
 rintro e w1 ⟨v1, rfl, o1, b1⟩
 obtain ⟨gr, c1, rfl, hgr, hgr1, hcr, hcr2⟩ := o1.at_len (by have := unhide HRL 0; rw [H00.out] at this; exact this) hn1
 have z1 := b1.size
 rw [← H00.out] at o1
 have O1 := Lib.hid o1
 clear o1
 go_wp2_with fail
 go_loopw [16] (fun iv wr => ∃ k : Nat, iv = .int .i64 k ∧ k ≤ piv.length ∧ Hid (Own wr W0.heap.size (.slice (some ⟨gr, 0, none⟩) n c1) (restTo F rows piv v k)) ∧ Hid (w1.grownBy wr (some gr))) (fun iv _ => piv.length - (intOf iv).toNat)
 case atStart => exact ⟨0, rfl, Nat.zero_le _, O1, hide (grown_refl _ _)⟩
 case round =>
  obtain ⟨k, rfl, hk, ho, hg⟩ := hrel
  have hbg : Below W0.heap.size W0 wr := b1.grown hg.out z1 (fun q hq => by injection hq; omega)
  by_cases hkl : k < piv.length
  · have kTr := kT.below hbg kT.lt
    obtain ⟨p, hp, hpn⟩ := unhide HPB k hkl
    obtain ⟨gp, op, rfl, _, hcp⟩ := ((unhide HP).below hbg).at_ (by omega)
    have hp1 := hcp k hkl
    rw [hp] at hp1
    have hkr : k < rows.length := by omega
    obtain ⟨gw, ow, rfl, hgw, hcw⟩ := (unhide HX).at_ (by omega)
    obtain ⟨ai, ci, hr0, hrr0⟩ := hcw k hkr
    have hmt := Mat_nth (unhide HMM) hkr
    rw [hmt.1] at hr0
    have hr1 := (hbg.cell (p := ⟨gw, ow + k, none⟩) hgw).trans hr0
    have hrr := hrr0.below hbg
    have hrl := unhide HRL k
    have hre := unhide HRE k
    have hst := unhide HST k
    rw [hp, Int.toNat_natCast] at hst
    have xc := ho.out.cell (j := p) (by rw [hrl]; exact hpn)
    have hxr := hre _ (nth_mem (k := p) (by rw [hrl]; exact hpn))
    obtain ⟨x, hx⟩ := Int.eq_ofNat_of_zero_le hxr.1
    rw [hx] at xc hxr hst
    have hxn : x < F.n := by omega
    have hDb := sub_bd ok 0 x
    obtain ⟨bS, oS, bs, os, cs, rfl, s1, s2⟩ := tab_at ((unhide TS).below hbg) (i := 0) (j := x) (by omega) hxn
    rw [show ((0 : Nat) : Int) = 0 from rfl] at s2
    obtain ⟨D, hD⟩ : ∃ D, D = F.sub 0 x := ⟨_, rfl⟩
    rw [← hD] at s2 hst hDb
    obtain ⟨rest, hrest⟩ : ∃ rest, rest = restTo F rows piv v k := ⟨_, rfl⟩
    rw [← hrest] at ho hrl hre hst
    have hat : Calls Try.prog 53 #[.agg #[.int .i64 F.n, .slice aA F.n cA, .slice (some ⟨bS, oS, none⟩) F.n cS, .slice aM F.n cM, .slice aI F.n cI], .slice (some ⟨gr, 0, none⟩) n c1, .slice ai n ci, .int .i64 D] wr.drew fun e w' => e = .returned (.tuple #[]) ∧ Own w' W0.heap.size (.slice (some ⟨gr, 0, none⟩) n c1) (addTo F rest (nthL rows k) D n) ∧ wr.drew.grownBy w' (some gr) := by
     have h := addTimes_any F _ W0 wr.drew W0.heap.size gr c1 ai ci rest (nthL rows k) D ok (unhide HT) hbg.drew (Nat.le_refl _) (by rw [hrl]; exact ho.out.drewN 1) (hrr.drewN 1) (fun q hq => by
      obtain ⟨b9, o9, e9, hb9, _⟩ := hrr0.at_ (by rw [hmt.1]; omega)
      rw [hq] at e9
      injection e9 with e9
      rw [e9]
      show b9 ≠ gr
      omega) (by rw [hrl, hmt.1]) hDb.1 hDb.2 hre hmt.2
     rw [hrl, hmt.1] at h
     exact h
    have HAT := hide hat
    have HST := Lib.hid hst
    have f0 := kTr.cell 0
    have f1 := kTr.cell 1
    have f2 := kTr.cell 2
    have f3 := kTr.cell 3
    have f4 := kTr.cell 4
    have hFn0 : 0 < F.n := by omega
    rw [Nat.add_zero] at s1
    clear hat hst hD hx hp hrest hcp hcw hrr hrr0 hr0 hmt hre hrl hxr hDb kTr
    go_wp2_with fail
    go_still_tail 16, (by kernel_rfl)
    change wpList _ _ _ _ _ wr.drew
    go_wp2_with fail
    refine (unhide HAT).mono ?_
    rintro e w5 ⟨rfl, o5, g5⟩
    go_wp2_with fail
    go_roundw
    case rel =>
     refine ⟨k + 1, by go_num, by omega, ?_, hide (grown_trans_row (grown_trans_row hg.out (grown_drew1 wr _)) g5)⟩
     show Own _ _ _ _
     rw [HST.out]
     exact o5
    case measure => simp only [intOf]; omega
  · have hke : k = piv.length := by omega
    have HE := Lib.hid hke
    have hz := isZero_any (some ⟨gr, 0, none⟩) c1 (restTo F rows piv v k) wr (by have h := ho.out.rd; exact h)
    rw [unhide HRL k, hke] at hz
    have HZ := hide hz
    clear hke hz
    go_wp2_with fail
    refine (unhide HZ).mono ?_
    rintro e w5 ⟨rfl, rfl⟩
    go_wp2
    go_ret
    exact ⟨rfl, b0.trans (hbg.mono (Nat.le_of_lt skT))⟩
end Go.Proofs.Ytgfcbmflnldicaa
namespace Go.Proofs.Ytgfcbmflnldicaa
open Go.RowKit
attribute [local go_sem ↓] Go.wp_at_zero Go.wp_at_succ
structure MG (F : FD) (n : Nat) (m : List (List Int)) : Prop where
 good : F.Good
 m1 : 1 ≤ m.length
 m32 : m.length ≤ 32
 n1 : 1 ≤ n
 n32 : n ≤ 32
 mat : F.Mat n m
theorem MG.hn {F : FD} {n : Nat} {m : List (List Int)} (h : MG F n m) : (nthL m 0).length = n := (Mat_nth h.mat h.m1).1
theorem good_okF {F : FD} (h : F.Good) : okF F.p F.k F.poly = true := by
 have ok := h.ok
 have hk := ok.k1
 have hk6 := ok.k6
 simp only [okF, Bool.and_eq_true, inB_true, beq_iff_eq, List.all_eq_true]
 refine ⟨⟨ok.p2, ok.p64⟩, ⟨by omega, by omega⟩, by rw [ok.len]; omega, by rw [Int.toNat_natCast]; exact ok.one, by rw [Int.toNat_natCast, h.spl], fun x hx => ?_, ok.irr⟩
 have := ok.inR x hx
 exact ⟨this.1, by omega⟩
theorem MG.okM {F : FD} {n : Nat} {m : List (List Int)} (h : MG F n m) : okM F.p F.k F.poly m = true := by
 have hM := h.mat
 have h1 := h.m1
 have h2 := h.m32
 have h3 := h.n1
 have h4 := h.n32
 rw [Go.Proofs.Ytgfcbmflnldicaa.okM, Bool.and_eq_true]
 refine ⟨good_okF h.good, ?_⟩
 rw [okR_true, h.hn]
 refine ⟨h1, h2, h3, h4, fun r hr => ?_⟩
 rw [Int.toNat_natCast, h.good.ok.n_eq]
 exact ⟨(hM r hr).1, elems_true.2 (hM r hr).2⟩
theorem MG.kI {F : FD} {n : Nat} {m : List (List Int)} (h : MG F n m) : I64 (F.k : Int) := by
 have hk := h.good.ok.k1
 have hk6 := h.good.ok.k6
 exact ⟨by omega, by omega⟩
theorem red_bd {F : FD} {n : Nat} {m : List (List Int)} (hG : F.Good) (hM : F.Mat n m) : (red F m n).2.length = (form F m n).length ∧ ∀ j, j < (red F m n).2.length → ∃ p : Nat, nth (red F m n).2 j = (p : Int) ∧ p < n := by
 obtain ⟨pv, hpv, hE, _⟩ := form_ech hG hM
 refine ⟨by rw [hpv, List.length_map, hE.len], fun j hj => ?_⟩
 have hj' : j < pv.length := by rw [hpv, List.length_map] at hj; exact hj
 refine ⟨pv.getD j 0, ?_, hE.lt j hj'⟩
 rw [hpv, nth_lt (by rw [List.length_map]; exact hj'), List.getElem_map, List.getD_eq_getElem?_getD, List.getElem?_eq_getElem hj']
 rfl
theorem MG.form_len {F : FD} {n : Nat} {m : List (List Int)} (h : MG F n m) : (form F m n).length ≤ m.length := by
 rw [Go.Proofs.Ytgfcbmflnldicaa.form_len]
 exact red_piv F m n
theorem MG.form {F : FD} {n : Nat} {m : List (List Int)} (h : MG F n m) (h0 : 0 < (form F m n).length) : MG F n (form F m n) ∧ form F (form F m n) n = form F m n := by
 obtain ⟨pv, _, hE, _⟩ := form_ech h.good h.mat
 have := h.form_len
 have h2 := h.m32
 exact ⟨⟨h.good, h0, by omega, h.n1, h.n32, hE.mat⟩, (form_fix h.good hE).1⟩
theorem MG.cols {F : FD} {n : Nat} {m : List (List Int)} (h : MG F n m) : MG F m.length (cols m n) := ⟨h.good, by rw [cols_len]; exact h.n1, by rw [cols_len]; exact h.n32, h.m1, h.m32, cols_Mat h.good.ok h.mat⟩
theorem rowReduce_ok (F : FD) (ap : Option Addr) (cp : Nat) (ra : Option Addr) (rc : Nat) (m : List (List Int)) (n : Nat) (w : World) (hR : Rd w ap F.poly) (hm : RdS w ra m) (hC : MG F n m) :
    Calls Try.prog 6 #[.agg #[.int .i64 F.p, .int .i64 F.k, .slice ap F.poly.length cp], .slice ra m.length rc] w fun e w' => (∃ v, e = .returned (.tuple #[v, .int .i64 0]) ∧ OwnS w' w.heap.size v (form F m n)) ∧ Below w.heap.size w w' := by
 have hml := hm.len
 have hG := hC.good
 have ok := hC.good.ok
 obtain ⟨n2, n64⟩ := ok.n_bd
 have hm1 := hC.m1
 have hm32 := hC.m32
 have hn1 := hC.n1
 have hn32 := hC.n32
 have hM := hC.mat
 have hm0 : 0 < m.length := by omega
 obtain ⟨W0, hHW⟩ : ∃ z, z = w.alloc (.cells #[.int .i64 F.p, .int .i64 F.k, .slice ap F.poly.length cp] 26) := ⟨_, rfl⟩
 have b0 : Below w.heap.size w W0 := by rw [hHW]; exact (Below.refl _ _).alloc (Nat.le_refl _) _
 have k0 : Blk W0 w.heap.size 26 #[.int .i64 F.p, .int .i64 F.k, .slice ap F.poly.length cp] := by rw [hHW]; exact Blk.new _ _ _ rfl
 have sk0 : w.heap.size < W0.heap.size := k0.lt
 have HW := Lib.hid hHW
 clear hHW
 have hV := validMatrix_any F.p F.k ap cp F.poly ra rc m W0 (hR.below b0) (hm.below b0) hC.kI
 rw [hC.okM] at hV
 obtain ⟨gb, ob, rfl, hgb, hcc⟩ := (hm.below b0).at_ hm1
 obtain ⟨ai, ci, hr0, _⟩ := hcc 0 hm1
 rw [Nat.add_zero, hC.hn] at hr0
 have HV := hide hV
 have HT := hide (fun W (h : Below W0.heap.size W0 W) => tablesOf_any F ap cp W ((hR.below b0).below h) ok)
 have HRE := hide (fun tv W (h : Below W0.heap.size W0 W) hT => reduce_any F tv (some ⟨gb, ob, none⟩) rc m n W hT hG ((hm.below b0).below h) hm0 hM)
 clear hV hcc
 have HCP := hide (fun a c W hx => copyLists_any a c (form F m n) W hx)
 clear hC hM hG ok
 obtain ⟨R, hRR⟩ : ∃ R, R = form F m n := ⟨_, rfl⟩
 rw [← hRR] at HRE HCP
 rw [← hRR]
 clear hRR
 have f0 := k0.cell 0
 have f1 := k0.cell 1
 have f2 := k0.cell 2
 go_enter Try.func6, Try.ntmps6
 go_upto_region 1 with fail
 rw [← HW.out]
 go_wp2_with fail
 refine (unhide HV).mono ?_
 rintro e w1 ⟨rfl, b1⟩
 have k1 := k0.below b1 k0.lt
 have hr1 := (b1.cell (p := ⟨gb, ob, none⟩) hgb).trans hr0
 clear f0 f1 f2
 have f0 := k1.cell 0
 have f1 := k1.cell 1
 have f2 := k1.cell 2
 have bb1 := b0.trans (b1.mono (Nat.le_of_lt sk0))
 go_wp2_with fail
 refine (unhide HT _ b1).mono ?_
 rintro e w2 ⟨tv, rfl, t2, b2⟩
 have c2 := Below.chain b1 b2
 have T2 := hide t2
 clear t2
 go_wp2_with fail
 refine (unhide HRE _ _ c2 (unhide T2)).mono ?_
 rintro e w3 ⟨v3, u3, d3, rfl, o3, q3, b3⟩
 have c3 := Below.chain c2 b3
 have bb3 := b0.trans (c3.mono (Nat.le_of_lt sk0))
 have z3 := bb3.size
 have z2 := (b0.trans (c2.mono (Nat.le_of_lt sk0))).size
 obtain ⟨a3, c3', rfl, r3⟩ := o3.form
 have R3 := hide r3
 clear o3 q3 r3
 go_wp2_with fail
 refine (unhide HCP _ _ _ (unhide R3)).mono ?_
 rintro e w4 ⟨v4, rfl, o4, b4⟩
 have c4 := Below.chain c3 b4
 go_wp2
 go_ret2
 exact ⟨⟨_, rfl, o4.mono z3⟩, b0.trans (c4.mono (Nat.le_of_lt sk0))⟩
theorem pivotsOf_ok (F : FD) (ap : Option Addr) (cp : Nat) (ra : Option Addr) (rc : Nat) (m : List (List Int)) (n : Nat) (w : World) (hR : Rd w ap F.poly) (hm : RdS w ra m) (hC : MG F n m) :
    Calls Try.prog 9 #[.agg #[.int .i64 F.p, .int .i64 F.k, .slice ap F.poly.length cp], .slice ra m.length rc] w fun e w' => (∃ v, e = .returned (.tuple #[v, .int .i64 0]) ∧ Own w' w.heap.size v (red F m n).2) ∧ Below w.heap.size w w' := by
 have hml := hm.len
 have hG := hC.good
 have ok := hC.good.ok
 obtain ⟨n2, n64⟩ := ok.n_bd
 have hm1 := hC.m1
 have hm32 := hC.m32
 have hn1 := hC.n1
 have hn32 := hC.n32
 have hM := hC.mat
 have hm0 : 0 < m.length := by omega
 obtain ⟨W0, hHW⟩ : ∃ z, z = w.alloc (.cells #[.int .i64 F.p, .int .i64 F.k, .slice ap F.poly.length cp] 26) := ⟨_, rfl⟩
 have b0 : Below w.heap.size w W0 := by rw [hHW]; exact (Below.refl _ _).alloc (Nat.le_refl _) _
 have k0 : Blk W0 w.heap.size 26 #[.int .i64 F.p, .int .i64 F.k, .slice ap F.poly.length cp] := by rw [hHW]; exact Blk.new _ _ _ rfl
 have sk0 : w.heap.size < W0.heap.size := k0.lt
 have HW := Lib.hid hHW
 clear hHW
 have hV := validMatrix_any F.p F.k ap cp F.poly ra rc m W0 (hR.below b0) (hm.below b0) hC.kI
 rw [hC.okM] at hV
 obtain ⟨gb, ob, rfl, hgb, hcc⟩ := (hm.below b0).at_ hm1
 obtain ⟨ai, ci, hr0, _⟩ := hcc 0 hm1
 rw [Nat.add_zero, hC.hn] at hr0
 have HV := hide hV
 have HT := hide (fun W (h : Below W0.heap.size W0 W) => tablesOf_any F ap cp W ((hR.below b0).below h) ok)
 have HRE := hide (fun tv W (h : Below W0.heap.size W0 W) hT => reduce_any F tv (some ⟨gb, ob, none⟩) rc m n W hT hG ((hm.below b0).below h) hm0 hM)
 clear hV hcc
 clear hC hM hG ok
 have f0 := k0.cell 0
 have f1 := k0.cell 1
 have f2 := k0.cell 2
 go_enter Try.func9, Try.ntmps9
 go_upto_region 1 with fail
 rw [← HW.out]
 go_wp2_with fail
 refine (unhide HV).mono ?_
 rintro e w1 ⟨rfl, b1⟩
 have k1 := k0.below b1 k0.lt
 have hr1 := (b1.cell (p := ⟨gb, ob, none⟩) hgb).trans hr0
 clear f0 f1 f2
 have f0 := k1.cell 0
 have f1 := k1.cell 1
 have f2 := k1.cell 2
 have bb1 := b0.trans (b1.mono (Nat.le_of_lt sk0))
 go_wp2_with fail
 refine (unhide HT _ b1).mono ?_
 rintro e w2 ⟨tv, rfl, t2, b2⟩
 have c2 := Below.chain b1 b2
 have T2 := hide t2
 clear t2
 go_wp2_with fail
 refine (unhide HRE _ _ c2 (unhide T2)).mono ?_
 rintro e w3 ⟨v3, u3, d3, rfl, o3, q3, b3⟩
 have c3 := Below.chain c2 b3
 have bb3 := b0.trans (c3.mono (Nat.le_of_lt sk0))
 have z3 := bb3.size
 have z2 := (b0.trans (c2.mono (Nat.le_of_lt sk0))).size
 obtain ⟨a3, c3', rfl, _⟩ := o3.form
 obtain ⟨a4, c4', rfl, _, _⟩ := q3.form
 have q3' := q3.mono z2
 have Q3 := hide q3'
 clear o3 q3 q3'
 go_wp2
 go_ret2
 exact ⟨⟨_, rfl, unhide Q3⟩, bb3⟩
theorem rankOf_ok (F : FD) (ap : Option Addr) (cp : Nat) (ra : Option Addr) (rc : Nat) (m : List (List Int)) (n : Nat) (w : World) (hR : Rd w ap F.poly) (hm : RdS w ra m) (hC : MG F n m) :
    Calls Try.prog 7 #[.agg #[.int .i64 F.p, .int .i64 F.k, .slice ap F.poly.length cp], .slice ra m.length rc] w fun e w' => e = .returned (.tuple #[.int .i64 ((form F m n).length : Nat), .int .i64 0]) ∧ Below w.heap.size w w' := by
 obtain ⟨W0, hHW⟩ : ∃ z, z = w.alloc (.cells #[.int .i64 F.p, .int .i64 F.k, .slice ap F.poly.length cp] 26) := ⟨_, rfl⟩
 have b0 : Below w.heap.size w W0 := by rw [hHW]; exact (Below.refl _ _).alloc (Nat.le_refl _) _
 have k0 : Blk W0 w.heap.size 26 #[.int .i64 F.p, .int .i64 F.k, .slice ap F.poly.length cp] := by rw [hHW]; exact Blk.new _ _ _ rfl
 have sk0 : w.heap.size < W0.heap.size := k0.lt
 have HW := Lib.hid hHW
 have hl := (red_bd hC.good hC.mat).1
 have HP := hide (pivotsOf_ok F ap cp ra rc m n W0 (hR.below b0) (hm.below b0) hC)
 obtain ⟨P, hP⟩ : ∃ P, P = (red F m n).2 := ⟨_, rfl⟩
 rw [← hP] at HP hl
 rw [← hl]
 have HSZ := hide (fun ap cp W => size_any ap P.length cp W)
 clear hHW hP hl
 have f0 := k0.cell 0
 have f1 := k0.cell 1
 have f2 := k0.cell 2
 go_enter Try.func7, Try.ntmps7
 go_upto_region 1 with fail
 rw [← HW.out]
 go_wp2_with fail
 refine (unhide HP).mono ?_
 rintro e w1 ⟨⟨v, rfl, o1⟩, b1⟩
 obtain ⟨a1, c1, rfl, _, _⟩ := o1.form
 clear o1
 go_wp2_with fail
 refine (unhide HSZ _ _ _).mono ?_
 rintro e w2 ⟨rfl, rfl⟩
 go_wp2
 go_ret2
 exact ⟨rfl, b0.trans (b1.mono (Nat.le_of_lt sk0))⟩
theorem turn_ok (F : FD) (ap : Option Addr) (cp : Nat) (ra : Option Addr) (rc : Nat) (m : List (List Int)) (n : Nat) (w : World) (hR : Rd w ap F.poly) (hm : RdS w ra m) (hC : MG F n m) :
    Calls Try.prog 10 #[.agg #[.int .i64 F.p, .int .i64 F.k, .slice ap F.poly.length cp], .slice ra m.length rc] w fun e w' => (∃ v, e = .returned (.tuple #[v, .int .i64 0]) ∧ OwnS w' w.heap.size v (cols m n)) ∧ Below w.heap.size w w' := by
 have hml := hm.len
 have hG := hC.good
 have ok := hC.good.ok
 obtain ⟨n2, n64⟩ := ok.n_bd
 have hm1 := hC.m1
 have hm32 := hC.m32
 have hn1 := hC.n1
 have hn32 := hC.n32
 have hM := hC.mat
 have hm0 : 0 < m.length := by omega
 obtain ⟨W0, hHW⟩ : ∃ z, z = w.alloc (.cells #[.int .i64 F.p, .int .i64 F.k, .slice ap F.poly.length cp] 26) := ⟨_, rfl⟩
 have b0 : Below w.heap.size w W0 := by rw [hHW]; exact (Below.refl _ _).alloc (Nat.le_refl _) _
 have k0 : Blk W0 w.heap.size 26 #[.int .i64 F.p, .int .i64 F.k, .slice ap F.poly.length cp] := by rw [hHW]; exact Blk.new _ _ _ rfl
 have sk0 : w.heap.size < W0.heap.size := k0.lt
 have HW := Lib.hid hHW
 clear hHW
 have hV := validMatrix_any F.p F.k ap cp F.poly ra rc m W0 (hR.below b0) (hm.below b0) hC.kI
 rw [hC.okM] at hV
 obtain ⟨gb, ob, rfl, hgb, hcc⟩ := (hm.below b0).at_ hm1
 obtain ⟨ai, ci, hr0, _⟩ := hcc 0 hm1
 rw [Nat.add_zero, hC.hn] at hr0
 have HV := hide hV
 have HT := hide (fun W (h : Below W0.heap.size W0 W) => tablesOf_any F ap cp W ((hR.below b0).below h) ok)
 have HRE := hide (fun tv W (h : Below W0.heap.size W0 W) hT => reduce_any F tv (some ⟨gb, ob, none⟩) rc m n W hT hG ((hm.below b0).below h) hm0 hM)
 clear hV hcc
 have HCO := hide (fun W (h : Below W0.heap.size W0 W) => columnsOf_any (some ⟨gb, ob, none⟩) rc m n W ((hm.below b0).below h) (fun xs hx => (hM xs hx).1) (by omega) (by omega))
 clear hC hM hG ok
 have f0 := k0.cell 0
 have f1 := k0.cell 1
 have f2 := k0.cell 2
 go_enter Try.func10, Try.ntmps10
 go_upto_region 1 with fail
 rw [← HW.out]
 go_wp2_with fail
 refine (unhide HV).mono ?_
 rintro e w1 ⟨rfl, b1⟩
 have k1 := k0.below b1 k0.lt
 have hr1 := (b1.cell (p := ⟨gb, ob, none⟩) hgb).trans hr0
 clear f0 f1 f2
 have f0 := k1.cell 0
 have f1 := k1.cell 1
 have f2 := k1.cell 2
 have bb1 := b0.trans (b1.mono (Nat.le_of_lt sk0))
 go_wp2_with fail
 refine (unhide HCO _ b1).mono ?_
 rintro e w2 ⟨v2, rfl, o2, b2⟩
 have c2 := Below.chain b1 b2
 go_wp2
 go_ret2
 exact ⟨⟨_, rfl, o2.mono bb1.size⟩, b0.trans (c2.mono (Nat.le_of_lt sk0))⟩
theorem turnS_ok (F : FD) (ap : Option Addr) (cp : Nat) (ra : Option Addr) (rc : Nat) (m : List (List Int)) (n : Nat) (w : World) (hR : Rd w ap F.poly) (hm : RdS w ra m) (hC : MG F n m) :
    Calls Try.prog 13 #[.agg #[.int .i64 F.p, .int .i64 F.k, .slice ap F.poly.length cp], .slice ra m.length rc] w fun e w' => (∃ v, e = .returned (.tuple #[v, .int .i64 0]) ∧ OwnS w' w.heap.size v (cols m n)) ∧ Below w.heap.size w w' := by
 have hml := hm.len
 have hG := hC.good
 have ok := hC.good.ok
 obtain ⟨n2, n64⟩ := ok.n_bd
 have hm1 := hC.m1
 have hm32 := hC.m32
 have hn1 := hC.n1
 have hn32 := hC.n32
 have hM := hC.mat
 have hm0 : 0 < m.length := by omega
 obtain ⟨W0, hHW⟩ : ∃ z, z = w.alloc (.cells #[.int .i64 F.p, .int .i64 F.k, .slice ap F.poly.length cp] 26) := ⟨_, rfl⟩
 have b0 : Below w.heap.size w W0 := by rw [hHW]; exact (Below.refl _ _).alloc (Nat.le_refl _) _
 have k0 : Blk W0 w.heap.size 26 #[.int .i64 F.p, .int .i64 F.k, .slice ap F.poly.length cp] := by rw [hHW]; exact Blk.new _ _ _ rfl
 have sk0 : w.heap.size < W0.heap.size := k0.lt
 have HW := Lib.hid hHW
 clear hHW
 have hP0 : PR W0 w.heap.size F.p F.k ap cp F.poly := ⟨k0.cell 0, k0.cell 1, k0.cell 2, hR.below b0⟩
 have hV := l17Ok_any w.heap.size F.p F.k ap cp F.poly ra rc m W0 hP0 (hm.below b0)
 rw [hC.okM] at hV
 obtain ⟨gb, ob, rfl, hgb, hcc⟩ := (hm.below b0).at_ hm1
 obtain ⟨ai, ci, hr0, _⟩ := hcc 0 hm1
 rw [Nat.add_zero, hC.hn] at hr0
 have HV := hide hV
 have HT := hide (fun W (h : Below W0.heap.size W0 W) => tablesOf_any F ap cp W ((hR.below b0).below h) ok)
 have HRE := hide (fun tv W (h : Below W0.heap.size W0 W) hT => reduce_any F tv (some ⟨gb, ob, none⟩) rc m n W hT hG ((hm.below b0).below h) hm0 hM)
 clear hV hcc
 have HCO := hide (fun W (h : Below W0.heap.size W0 W) => l17Turn_any (some ⟨gb, ob, none⟩) rc m n W ((hm.below b0).below h) (fun xs hx => (hM xs hx).1) (by omega) hm0 (by omega))
 clear hC hM hG ok
 have f0 := k0.cell 0
 have f1 := k0.cell 1
 have f2 := k0.cell 2
 go_enter Try.func13, Try.ntmps13
 go_upto_region 1 with fail
 rw [← HW.out]
 go_wp2_with fail
 refine (unhide HV).mono ?_
 rintro e w1 ⟨rfl, b1⟩
 have k1 := k0.below b1 k0.lt
 have hr1 := (b1.cell (p := ⟨gb, ob, none⟩) hgb).trans hr0
 clear f0 f1 f2
 have f0 := k1.cell 0
 have f1 := k1.cell 1
 have f2 := k1.cell 2
 have bb1 := b0.trans (b1.mono (Nat.le_of_lt sk0))
 go_wp2_with fail
 refine (unhide HCO _ b1).mono ?_
 rintro e w2 ⟨v2, rfl, o2, b2⟩
 have c2 := Below.chain b1 b2
 go_wp2
 go_ret2
 exact ⟨⟨_, rfl, o2.mono bb1.size⟩, b0.trans (c2.mono (Nat.le_of_lt sk0))⟩
theorem nullSp_ok (F : FD) (ap : Option Addr) (cp : Nat) (ra : Option Addr) (rc : Nat) (m : List (List Int)) (n : Nat) (w : World) (hR : Rd w ap F.poly) (hm : RdS w ra m) (hC : MG F n m) :
    Calls Try.prog 8 #[.agg #[.int .i64 F.p, .int .i64 F.k, .slice ap F.poly.length cp], .slice ra m.length rc] w fun e w' => (∃ v, e = .returned (.tuple #[v, .int .i64 0]) ∧ OwnS w' w.heap.size v (nul F m n)) ∧ Below w.heap.size w w' := by
 have hml := hm.len
 have hG := hC.good
 have ok := hC.good.ok
 obtain ⟨n2, n64⟩ := ok.n_bd
 have hm1 := hC.m1
 have hm32 := hC.m32
 have hn1 := hC.n1
 have hn32 := hC.n32
 have hM := hC.mat
 have hm0 : 0 < m.length := by omega
 obtain ⟨W0, hHW⟩ : ∃ z, z = w.alloc (.cells #[.int .i64 F.p, .int .i64 F.k, .slice ap F.poly.length cp] 26) := ⟨_, rfl⟩
 have b0 : Below w.heap.size w W0 := by rw [hHW]; exact (Below.refl _ _).alloc (Nat.le_refl _) _
 have k0 : Blk W0 w.heap.size 26 #[.int .i64 F.p, .int .i64 F.k, .slice ap F.poly.length cp] := by rw [hHW]; exact Blk.new _ _ _ rfl
 have sk0 : w.heap.size < W0.heap.size := k0.lt
 have HW := Lib.hid hHW
 clear hHW
 have hV := validMatrix_any F.p F.k ap cp F.poly ra rc m W0 (hR.below b0) (hm.below b0) hC.kI
 rw [hC.okM] at hV
 obtain ⟨gb, ob, rfl, hgb, hcc⟩ := (hm.below b0).at_ hm1
 obtain ⟨ai, ci, hr0, _⟩ := hcc 0 hm1
 rw [Nat.add_zero, hC.hn] at hr0
 have HV := hide hV
 have HT := hide (fun W (h : Below W0.heap.size W0 W) => tablesOf_any F ap cp W ((hR.below b0).below h) ok)
 have HRE := hide (fun tv W (h : Below W0.heap.size W0 W) hT => reduce_any F tv (some ⟨gb, ob, none⟩) rc m n W hT hG ((hm.below b0).below h) hm0 hM)
 clear hV hcc
 have HNU := hide (fun tv W (h : Below W0.heap.size W0 W) hT => nullSpace_any F tv (some ⟨gb, ob, none⟩) rc m n W hT hG ((hm.below b0).below h) hm0 hM hn1 (by omega))
 have HCP := hide (fun a c W hx => copyLists_any a c (nul F m n) W hx)
 clear hC hM hG ok
 obtain ⟨R, hRR⟩ : ∃ R, R = nul F m n := ⟨_, rfl⟩
 rw [← hRR] at HNU HCP
 rw [← hRR]
 clear hRR
 have BX := hide (show ∀ W, Below W0.heap.size W0 W → (Below W0.heap.size W0 W ∧ W.cell? ⟨w.heap.size, 0, none⟩ = some (.int .i64 F.p) ∧ W.cell? ⟨w.heap.size, 1, none⟩ = some (.int .i64 F.k) ∧ W.cell? ⟨w.heap.size, 2, none⟩ = some (.slice ap F.poly.length cp) ∧ W.cell? ⟨gb, ob, none⟩ = some (.slice ai n ci)) from fun W h => ⟨h, (k0.below h k0.lt).cell 0, (k0.below h k0.lt).cell 1, (k0.below h k0.lt).cell 2, (h.cell (p := ⟨gb, ob, none⟩) hgb).trans hr0⟩)
 have f0 := k0.cell 0
 have f1 := k0.cell 1
 have f2 := k0.cell 2
 go_enter Try.func8, Try.ntmps8
 go_upto_region 1 with fail
 rw [← HW.out]
 go_wp2_with fail
 refine (unhide HV).mono ?_
 rintro e w1 ⟨rfl, b1⟩
 have k1 := k0.below b1 k0.lt
 have hr1 := (b1.cell (p := ⟨gb, ob, none⟩) hgb).trans hr0
 clear f0 f1 f2
 have f0 := k1.cell 0
 have f1 := k1.cell 1
 have f2 := k1.cell 2
 have bb1 := b0.trans (b1.mono (Nat.le_of_lt sk0))
 go_upto_region 3 with fail
 refine wp_region_noPanic ?_
 refine wp_region_ord (S := (fun W => Below W0.heap.size W0 W ∧ W.cell? ⟨w.heap.size, 0, none⟩ = some (.int .i64 F.p) ∧ W.cell? ⟨w.heap.size, 1, none⟩ = some (.int .i64 F.k) ∧ W.cell? ⟨w.heap.size, 2, none⟩ = some (.slice ap F.poly.length cp) ∧ W.cell? ⟨gb, ob, none⟩ = some (.slice ai n ci))) [(true, 0), (true, 2), (true, 3), (true, 4), (true, 5), (true, 6), (false, 1), (false, 7), (false, 8), (true, 9), (true, 10)] (by kernel_rfl) (by kernel_rfl) (by kernel_rfl) rfl (fun _ _ _ _ _ h => h) ?_ (fun hHeld => ?_)
 · exact (unhide BX) _ ((show Below W0.heap.size W0 w1 from b1).drew)
 refine SeqO.take (by rfl) (v := ?hv1) (by rfl) ?hy1 ?hr1
 case hy1 =>
  intro w hSw
  try dsimp only at hSw
  go_simp
  try (with_reducible rfl)
 try simp only [Act.put, List.setIfInBounds_toArray, List.set_cons_zero, List.set_cons_succ]
 refine SeqO.take (by rfl) (v := ?hv2) (by rfl) ?hy2 ?hr2
 case hy2 =>
  intro w hSw
  try dsimp only at hSw
  go_simp
  try (with_reducible rfl)
 try simp only [Act.put, List.setIfInBounds_toArray, List.set_cons_zero, List.set_cons_succ]
 refine SeqO.take (by rfl) (v := ?hv3) (by rfl) ?hy3 ?hr3
 case hy3 =>
  intro w hSw
  try dsimp only at hSw
  go_simp
  try (with_reducible rfl)
 try simp only [Act.put, List.setIfInBounds_toArray, List.set_cons_zero, List.set_cons_succ]
 refine SeqO.take (by rfl) (v := ?hv4) (by rfl) ?hy4 ?hr4
 case hy4 =>
  intro w hSw
  try dsimp only at hSw
  go_simp
  try (with_reducible rfl)
 try simp only [Act.put, List.setIfInBounds_toArray, List.set_cons_zero, List.set_cons_succ]
 refine SeqO.take (by rfl) (v := ?hv5) (by rfl) ?hy5 ?hr5
 case hy5 =>
  intro w hSw
  try dsimp only at hSw
  go_simp
  try (with_reducible rfl)
 try simp only [Act.put, List.setIfInBounds_toArray, List.set_cons_zero, List.set_cons_succ]
 refine SeqO.take (by rfl) (v := ?hv6) (by rfl) ?hy6 ?hr6
 case hy6 =>
  intro w hSw
  try dsimp only at hSw
  go_simp
  try (with_reducible rfl)
 try simp only [Act.put, List.setIfInBounds_toArray, List.set_cons_zero, List.set_cons_succ]
 refine SeqO.call (by rfl) (fun K hK => ?_)
 go_simp
 refine ((unhide HT) _ (And.left hHeld)).mono ?_
 rintro e w2 ⟨tv, rfl, T1, bt⟩
 have dt := (And.left hHeld).trans (bt.mono (And.left hHeld).size)
 have HTT := hide T1
 clear hHeld T1
 refine hK.out _ _ ?_ (fun hHeld => ?_)
 · exact (unhide BX) _ dt
 clear hK K
 try simp only [Act.put, List.setIfInBounds_toArray, List.set_cons_zero, List.set_cons_succ]
 refine SeqO.call (by rfl) (fun K hK => ?_)
 go_simp
 refine ((unhide HNU) _ _ dt (unhide HTT)).mono ?_
 rintro e w4 ⟨v4, rfl, o4, b4⟩
 obtain ⟨a4, c4, rfl, r4⟩ := o4.form
 have d4 := dt.trans (b4.mono dt.size)
 have R4 := hide r4
 clear hHeld o4 r4
 refine hK.out _ _ ?_ (fun hHeld => ?_)
 · exact (unhide BX) _ d4
 clear hK K
 try simp only [Act.put, List.setIfInBounds_toArray, List.set_cons_zero, List.set_cons_succ]
 refine SeqO.call (by rfl) (fun K hK => ?_)
 go_simp
 refine ((unhide HCP) _ _ _ (unhide R4)).mono ?_
 rintro e w6 ⟨v6, rfl, o6, b6⟩
 have dd6 := d4.trans (b6.mono d4.size)
 refine hK.out _ _ ?_ (fun hHeld => ?_)
 · exact (unhide BX) _ dd6
 clear hK K
 try simp only [Act.put, List.setIfInBounds_toArray, List.set_cons_zero, List.set_cons_succ]
 refine SeqO.take (by rfl) (v := ?hv7) (by rfl) ?hy7 ?hr7
 case hy7 =>
  intro w hSw
  try dsimp only at hSw
  go_simp
  try (with_reducible rfl)
 try simp only [Act.put, List.setIfInBounds_toArray, List.set_cons_zero, List.set_cons_succ]
 refine SeqO.take (by rfl) (v := ?hv8) (by rfl) ?hy8 ?hr8
 case hy8 =>
  intro w hSw
  try dsimp only at hSw
  go_simp
  try (with_reducible rfl)
 try simp only [Act.put, List.setIfInBounds_toArray, List.set_cons_zero, List.set_cons_succ]
 refine SeqO.done (NoPanic.normal ?_)
 have c6 := dd6
 go_wp2
 go_ret2
 exact ⟨⟨_, rfl, o6.mono (by have := (b0.trans (d4.mono (Nat.le_of_lt sk0))).size; omega)⟩, b0.trans (dd6.mono (Nat.le_of_lt sk0))⟩
theorem matMul_ok (F : FD) (ap : Option Addr) (cp : Nat) (ra : Option Addr) (rc : Nat) (m : List (List Int)) (ba : Option Addr) (bc : Nat) (q : List (List Int)) (nb : Nat) (n : Nat) (w : World) (hR : Rd w ap F.poly) (hm : RdS w ra m) (hC : MG F n m) (hq : RdS w ba q) (hD : MG F nb q) (hql : q.length = n) :
    Calls Try.prog 14 #[.agg #[.int .i64 F.p, .int .i64 F.k, .slice ap F.poly.length cp], .slice ra m.length rc, .slice ba q.length bc] w fun e w' => (∃ v, e = .returned (.tuple #[v, .int .i64 0]) ∧ OwnS w' w.heap.size v (prodTo F m (cols q nb) m.length)) ∧ Below w.heap.size w w' := by
 have hml := hm.len
 have hG := hC.good
 have ok := hC.good.ok
 obtain ⟨n2, n64⟩ := ok.n_bd
 have hm1 := hC.m1
 have hm32 := hC.m32
 have hn1 := hC.n1
 have hn32 := hC.n32
 have hM := hC.mat
 have hm0 : 0 < m.length := by omega
 obtain ⟨W0, hHW⟩ : ∃ z, z = w.alloc (.cells #[.int .i64 F.p, .int .i64 F.k, .slice ap F.poly.length cp] 26) := ⟨_, rfl⟩
 have b0 : Below w.heap.size w W0 := by rw [hHW]; exact (Below.refl _ _).alloc (Nat.le_refl _) _
 have k0 : Blk W0 w.heap.size 26 #[.int .i64 F.p, .int .i64 F.k, .slice ap F.poly.length cp] := by rw [hHW]; exact Blk.new _ _ _ rfl
 have sk0 : w.heap.size < W0.heap.size := k0.lt
 have HW := Lib.hid hHW
 clear hHW
 have hV := validMatrix_any F.p F.k ap cp F.poly ra rc m W0 (hR.below b0) (hm.below b0) hC.kI
 rw [hC.okM] at hV
 obtain ⟨gb, ob, rfl, hgb, hcc⟩ := (hm.below b0).at_ hm1
 obtain ⟨ai, ci, hr0, _⟩ := hcc 0 hm1
 rw [Nat.add_zero, hC.hn] at hr0
 have HV := hide hV
 have HT := hide (fun W (h : Below W0.heap.size W0 W) => tablesOf_any F ap cp W ((hR.below b0).below h) ok)
 have HRE := hide (fun tv W (h : Below W0.heap.size W0 W) hT => reduce_any F tv (some ⟨gb, ob, none⟩) rc m n W hT hG ((hm.below b0).below h) hm0 hM)
 clear hV hcc
 have hqm := hD.m1
 have hqm32 := hD.m32
 have hnb := hD.n32
 have hV2 := fun W (h : Below W0.heap.size W0 W) => validMatrix_any F.p F.k ap cp F.poly ba bc q W ((hR.below b0).below h) ((hq.below b0).below h) hC.kI
 rw [hD.okM] at hV2
 have HV2 := hide hV2
 have HTI := hide (fun tv W (h : Below W0.heap.size W0 W) hT => times_any F tv (some ⟨gb, ob, none⟩) rc m ba bc q n nb W hT ok ((hm.below b0).below h) ((hq.below b0).below h) hM hD.mat hql (by omega) (by omega) (by omega) (by omega))
 have hne : ((n : Int) != (q.length : Int)) = false := by rw [bne_eq_false_iff_eq]; omega
 clear hC hM hG ok hD hql hV2
 have f0 := k0.cell 0
 have f1 := k0.cell 1
 have f2 := k0.cell 2
 go_enter Try.func14, Try.ntmps14
 go_upto_region 1 with fail
 rw [← HW.out]
 go_wp2_with fail
 refine (unhide HV).mono ?_
 rintro e w1 ⟨rfl, b1⟩
 have k1 := k0.below b1 k0.lt
 have hr1 := (b1.cell (p := ⟨gb, ob, none⟩) hgb).trans hr0
 clear f0 f1 f2
 have f0 := k1.cell 0
 have f1 := k1.cell 1
 have f2 := k1.cell 2
 have bb1 := b0.trans (b1.mono (Nat.le_of_lt sk0))
 go_wp2_with fail
 refine (unhide HV2 _ b1).mono ?_
 rintro e w2 ⟨rfl, b2⟩
 have c2 := Below.chain b1 b2
 have k2 := k0.below c2 k0.lt
 clear f0 f1 f2 hr1
 have hr1 := (c2.cell (p := ⟨gb, ob, none⟩) hgb).trans hr0
 have f0 := k2.cell 0
 have f1 := k2.cell 1
 have f2 := k2.cell 2
 go_wp2_with fail
 refine (unhide HT _ c2).mono ?_
 rintro e w3 ⟨tv, rfl, t3, b3⟩
 have c3 := Below.chain c2 b3
 have T3 := hide t3
 clear t3
 go_wp2_with fail
 refine (unhide HTI _ _ c3 (unhide T3)).mono ?_
 rintro e w4 ⟨v4, rfl, o4, b4⟩
 have c4 := Below.chain c3 b4
 have z3 := (b0.trans (c3.mono (Nat.le_of_lt sk0))).size
 go_wp2
 go_ret2
 exact ⟨⟨_, rfl, o4.mono z3⟩, b0.trans (c4.mono (Nat.le_of_lt sk0))⟩
theorem spanHas_ok (F : FD) (ap : Option Addr) (cp : Nat) (ra : Option Addr) (rc : Nat) (m : List (List Int)) (b : Option Addr) (cb : Nat) (v : List Int) (n : Nat) (w : World) (hR : Rd w ap F.poly) (hm : RdS w ra m) (hC : MG F n m) (hy : Rd w b v) (hle : v.length = n) (hEl : ∀ x ∈ v, 0 ≤ x ∧ x < F.n) (hfix : form F m n = m) (hsp : Sp F m (nth v)) :
    Calls Try.prog 12 #[.agg #[.int .i64 F.p, .int .i64 F.k, .slice ap F.poly.length cp], .slice ra m.length rc, .slice b v.length cb] w fun e w' => (e = .returned (.bool true)) ∧ Below w.heap.size w w' := by
 have hml := hm.len
 have hG := hC.good
 have ok := hC.good.ok
 obtain ⟨n2, n64⟩ := ok.n_bd
 have hm1 := hC.m1
 have hm32 := hC.m32
 have hn1 := hC.n1
 have hn32 := hC.n32
 have hM := hC.mat
 have hm0 : 0 < m.length := by omega
 obtain ⟨W0, hHW⟩ : ∃ z, z = w.alloc (.cells #[.int .i64 F.p, .int .i64 F.k, .slice ap F.poly.length cp] 26) := ⟨_, rfl⟩
 have b0 : Below w.heap.size w W0 := by rw [hHW]; exact (Below.refl _ _).alloc (Nat.le_refl _) _
 have k0 : Blk W0 w.heap.size 26 #[.int .i64 F.p, .int .i64 F.k, .slice ap F.poly.length cp] := by rw [hHW]; exact Blk.new _ _ _ rfl
 have sk0 : w.heap.size < W0.heap.size := k0.lt
 have HW := Lib.hid hHW
 clear hHW
 have hV := validMatrix_any F.p F.k ap cp F.poly ra rc m W0 (hR.below b0) (hm.below b0) hC.kI
 rw [hC.okM] at hV
 obtain ⟨gb, ob, rfl, hgb, hcc⟩ := (hm.below b0).at_ hm1
 obtain ⟨ai, ci, hr0, _⟩ := hcc 0 hm1
 rw [Nat.add_zero, hC.hn] at hr0
 have HV := hide hV
 have HT := hide (fun W (h : Below W0.heap.size W0 W) => tablesOf_any F ap cp W ((hR.below b0).below h) ok)
 have HRE := hide (fun tv W (h : Below W0.heap.size W0 W) hT => reduce_any F tv (some ⟨gb, ob, none⟩) rc m n W hT hG ((hm.below b0).below h) hm0 hM)
 clear hV hcc
 have he : elems F.n v = true := elems_true.2 hEl
 have hFS := fun W => fieldSize_any F ap cp W ok
 have hE := fun W h => areIn_any F.n b cb v W (by omega) (by omega) ((hy.below b0).below h)
 rw [he] at hE
 have HFS := hide hFS
 have HE := hide hE
 obtain ⟨hpl, hpb⟩ := red_bd hG hM
 rw [hfix] at hpl
 obtain ⟨pv, hpv, hEc, hS⟩ := form_ech hG hM
 rw [hfix] at hEc
 have hz : isZ (restTo F m (red F m n).2 v (red F m n).2.length) = true := by
  rw [hpl, hpv, isZ, Bool.not_eq_true', List.any_eq_false]
  intro x hx
  have := (rest_iff hG hEc ⟨hle, hEl⟩).2 hsp x hx
  simp [notZero, this]
 rw [hfix] at HRE
 obtain ⟨piv, hpiv⟩ : ∃ piv, piv = (red F m n).2 := ⟨_, rfl⟩
 rw [← hpiv] at HRE hpl hpb hz
 have hIN : ∀ tv (a1 : Option Addr) (c1 : Nat) (a2 : Option Addr) (c2 : Nat) W (_ : Below W0.heap.size W0 W) (_ : Tabs W F tv) (_ : RdS W a1 m) (_ : Rd W a2 piv), Calls Try.prog 32 #[tv, .slice a1 m.length c1, .slice a2 piv.length c2, .slice b v.length cb] W fun e w' => e = .returned (.bool true) ∧ Below W.heap.size W w' := fun tv a1 c1 a2 c2 W h hT r1 r2 => by
  have := inSpan_any F tv a1 c1 m a2 c2 piv b cb v n W hT hG r1 r2 ((hy.below b0).below h) hM hn1 hn32 (by omega) hpb hle hEl
  rw [hz] at this
  rw [hle]
  exact this
 have HIN := hide hIN
 have hbq : ((v.length : Int) != (n : Int)) = false := by rw [hle]; simp
 clear hC hM hG ok hFS hE hIN hpl hpb hz hfix hpv hEc hS hpiv hEl he hle hsp
 have f0 := k0.cell 0
 have f1 := k0.cell 1
 have f2 := k0.cell 2
 go_enter Try.func12, Try.ntmps12
 go_upto_region 1 with fail
 rw [← HW.out]
 go_wp2_with fail
 refine (unhide HV).mono ?_
 rintro e w1 ⟨rfl, b1⟩
 have k1 := k0.below b1 k0.lt
 have hr1 := (b1.cell (p := ⟨gb, ob, none⟩) hgb).trans hr0
 clear f0 f1 f2
 have f0 := k1.cell 0
 have f1 := k1.cell 1
 have f2 := k1.cell 2
 have bb1 := b0.trans (b1.mono (Nat.le_of_lt sk0))
 go_wp2_with fail
 refine (unhide HFS w1).mono ?_
 rintro e w2 ⟨rfl, b2⟩
 go_wp2_with fail
 refine (unhide HE w2 (Below.chain b1 b2)).mono ?_
 rintro e w3 ⟨rfl, b3⟩
 have c3 := Below.chain (Below.chain b1 b2) b3
 have k3 := k0.below c3 k0.lt
 clear f0 f1 f2
 have f0 := k3.cell 0
 have f1 := k3.cell 1
 have f2 := k3.cell 2
 go_wp2_with fail
 refine (unhide HT _ c3).mono ?_
 rintro e w4 ⟨tv, rfl, t4, b4⟩
 obtain ⟨aA, cA, aS, cS, aM, cM, aI, cI, rfl, t4A, t4S, t4M, t4I⟩ := t4
 obtain ⟨W5, hH5⟩ : ∃ z, z = w4.alloc (.cells #[.int .i64 F.n, .slice aA F.n cA, .slice aS F.n cS, .slice aM F.n cM, .slice aI F.n cI] 50) := ⟨_, rfl⟩
 have b5 : Below w4.heap.size w4 W5 := by rw [hH5]; exact (Below.refl _ _).alloc (Nat.le_refl _) _
 have kT : Blk W5 w4.heap.size 50 #[.int .i64 F.n, .slice aA F.n cA, .slice aS F.n cS, .slice aM F.n cM, .slice aI F.n cI] := by rw [hH5]; exact Blk.new _ _ _ rfl
 have H5 := Lib.hid hH5
 clear hH5
 have t5 : Tabs W5 F (.agg #[.int .i64 F.n, .slice aA F.n cA, .slice aS F.n cS, .slice aM F.n cM, .slice aI F.n cI]) := ⟨aA, cA, aS, cS, aM, cM, aI, cI, rfl, t4A.below b5, t4S.below b5, t4M.below b5, t4I.below b5⟩
 have c5 := Below.chain (Below.chain c3 b4) b5
 have T5 := hide t5
 clear f0 f1 f2 hr1 t5 t4A t4S t4M t4I
 have g0 := kT.cell 0
 have g1 := kT.cell 1
 have g2 := kT.cell 2
 have g3 := kT.cell 3
 have g4 := kT.cell 4
 go_upto_region 4 with fail
 rw [← H5.out]
 go_wp2_with fail
 refine (unhide HRE _ _ c5 (unhide T5)).mono ?_
 rintro e w6 ⟨v6, u6, d6, rfl, o6, q6, b6⟩
 have c6 := Below.chain c5 b6
 have k6 := kT.below b6 kT.lt
 have T6 := hide ((unhide T5).below b6)
 obtain ⟨a6, c6', rfl, r6⟩ := o6.form
 obtain ⟨a7, c7, rfl, r7, _⟩ := q6.form
 have R6 := hide r6
 have R7 := hide r7
 clear g0 g1 g2 g3 g4 o6 q6 r6 r7
 have g0 := k6.cell 0
 have g1 := k6.cell 1
 have g2 := k6.cell 2
 have g3 := k6.cell 3
 have g4 := k6.cell 4
 go_wp2_with fail
 refine (unhide HIN _ _ _ _ _ _ c6 (unhide T6) (unhide R6) (unhide R7)).mono ?_
 rintro e w8 ⟨rfl, b8⟩
 have c8 := Below.chain c6 b8
 go_wp2
 go_ret
 exact ⟨rfl, b0.trans (c8.mono (Nat.le_of_lt sk0))⟩
end Go.Proofs.Ytgfcbmflnldicaa
namespace Go.Proofs.Ytgfcbmflnldicaa
open Go.RowKit
attribute [local go_sem ↓] Go.wp_at_zero Go.wp_at_succ
theorem fdOf_good {q : Int} (h : isField q = true) : (fdOf q).Good := by
 obtain ⟨ok, hq, hs⟩ := fdOf_ok h
 exact ⟨ok, by rw [hq]; exact hs⟩
end Go.Proofs.Ytgfcbmflnldicaa
