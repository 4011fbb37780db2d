/-
  Texts joined.
-/
import Derived.Test.YtgmgpcaahanmiaaY1
import Derived.Test.YtgmgpcaahanmiaaY6
import Derived.Test.YtgmgpcaahanmiaaY12
import Derived.Test.YtgmgpcaahanmiaaY14
import Derived.Test.YtgmgpcaahanmiaaY17
set_option linter.unusedVariables false
set_option linter.unusedSimpArgs false
set_option maxRecDepth 100000
set_option maxHeartbeats 40000000
namespace Go.Proofs.Ytgmgpcaahanmiaa
open Go.RowKit
attribute [local go_sem ↓] Go.wp_at_zero Go.wp_at_succ
theorem index_any (a : Option Addr) (c : Nat) (xs : List Int) (x : Int) (w : World) (hx : Rd w a xs) : Calls Try.prog 221 #[.slice a xs.length c, .int .i64 x] w fun e w' => e = .returned (.int .i64 (firstOf (fun y => x == y) xs)) ∧ w = w' := by
 have hxl := hx.len
 go_enter Try.func221, Try.ntmps221
 go_wp2
 go_loopw [8] (fun i wr => ∃ k : Nat, i = .int .i64 k ∧ k ≤ xs.length ∧ Hid (∀ j, j < k → (x == nth xs j) = false) ∧ w = wr) (fun i _ => xs.length - (intOf i).toNat)
 case atStart => exact ⟨0, rfl, Nat.zero_le _, fun j hj => by omega, rfl⟩
 case round =>
  obtain ⟨k, rfl, hk, hq, rfl⟩ := hrel
  by_cases hkl : k < xs.length
  · obtain ⟨b1, o1, rfl, _, hc⟩ := hx.at_ (by omega)
    have h1 := hc k hkl
    obtain ⟨r, hr⟩ : ∃ r, (x == nth xs k) = r := ⟨_, rfl⟩
    have HR := Lib.hid hr
    generalize nth xs k = y at h1 hr
    clear hc
    cases r
    · go_wp2
      go_roundw
      case rel =>
       refine ⟨k + 1, by go_num, by omega, fun j hj => ?_, trivial⟩
       rcases Nat.lt_succ_iff_lt_or_eq.1 hj with h | rfl
       · exact hq.out j h
       · exact HR.out
      case measure => simp [intOf]; omega
    · go_wp2
      go_ret
      exact ⟨ret_int (firstOf_yes (p := fun y => x == y) hkl HR.out hq.out).symm, rfl⟩
  · go_wp2
    go_ret
    exact ⟨ret_int (firstOf_no (p := fun y => x == y) (fun j hj => hq.out j (by omega))).symm, rfl⟩
theorem contains_any (a : Option Addr) (c : Nat) (xs : List Int) (x : Int) (w : World) (hx : Rd w a xs) : Calls Try.prog 181 #[.slice a xs.length c, .int .i64 x] w fun e w' => e = .returned (.bool (xs.contains x)) ∧ w = w' := by
 have hc := index_any a c xs x w hx
 rw [List.contains_eq_any_beq, any_firstOf]
 generalize firstOf (fun y => x == y) xs = r at hc
 have HC := hide hc
 clear hc
 by_cases h0 : 0 ≤ r
 · go_enter Try.func181, Try.ntmps181
   go_wp2_with fail
   refine (unhide HC).mono ?_
   rintro e w1 ⟨rfl, rfl⟩
   go_wp2
   go_ret
   exact ⟨ret_bool (by simp [h0]), rfl⟩
 · go_enter Try.func181, Try.ntmps181
   go_wp2_with fail
   refine (unhide HC).mono ?_
   rintro e w1 ⟨rfl, rfl⟩
   go_wp2
   go_ret
   exact ⟨ret_bool (by simp [show ¬ 0 ≤ r by omega]), rfl⟩
theorem OwnS.nil_form {w : World} {B : Nat} {v : Value} (h : OwnS w B v []) : v = .slice none 0 0 ∨ ∃ g c, v = .slice (some ⟨g, 0, none⟩) 0 c := by
 obtain ⟨_, vs, hr, _⟩ := h
 rcases hr.2 with ⟨rfl, _⟩ | ⟨g, cap, cur, rfl, _⟩
 · exact .inl rfl
 · exact .inr ⟨g, cap, rfl⟩
theorem reduce_nil (F : FD) (aA : Option Addr) (cA : Nat) (aS : Option Addr) (cS : Nat) (aM : Option Addr) (cM : Nat) (aI : Option Addr) (cI : Nat) (a : Option Addr) (c : Nat) (w : World) :
    Calls Try.prog 155 #[.agg #[.int .i64 F.n, .slice aA F.n cA, .slice aS F.n cS, .slice aM F.n cM, .slice aI F.n cI], .slice a 0 c] w fun e w' => ∃ v u d, e = .returned (.tuple #[v, u, .int .i64 d]) ∧ OwnS w' w.heap.size v [] ∧ Own w' w.heap.size u [] ∧ Below w.heap.size w w' := by
 obtain ⟨W0, hW0⟩ : ∃ W0, W0 = w.alloc (.cells #[.int .i64 F.n, .slice aA F.n cA, .slice aS F.n cS, .slice aM F.n cM, .slice aI F.n cI] 93) := ⟨_, rfl⟩
 have bT : Below w.heap.size w W0 := by rw [hW0]; exact (Below.refl _ _).alloc (Nat.le_refl _) _
 have sT : W0.heap.size = w.heap.size + 1 := by rw [hW0]; simp
 have HW := Lib.hid hW0
 have hcp := copyLists_any a c [] W0 (RdS.nil _ _)
 have HCP := hide hcp
 clear hW0 hcp
 go_enter Try.func155, Try.ntmps155
 go_wp2_with fail
 rw [← HW.out]
 refine (unhide HCP).mono ?_
 rintro e w1 ⟨v1, rfl, o1, b1⟩
 have b2 : Below w1.heap.size w1 (w1.alloc (.cells #[.int .i64 0] 3)) := (Below.refl _ _).alloc (Nat.le_refl _) _
 have bb : Below w.heap.size w (w1.alloc (.cells #[.int .i64 0] 3)) := (bT.trans (b1.mono (by omega))).trans (b2.mono (by have := b1.size; omega))
 obtain ⟨W2, hW2⟩ : ∃ z, z = w1.alloc (.cells #[.int .i64 0] 3) := ⟨_, rfl⟩
 have o2 : OwnS W2 w.heap.size v1 [] := by rw [hW2]; exact (o1.below b2 (Nat.le_refl _)).mono (by omega)
 have kq : Blk W2 w1.heap.size 3 #[.int .i64 0] := by rw [hW2]; exact Blk.new _ _ _ rfl
 rw [← hW2] at bb
 have H2 := Lib.hid hW2
 clear hW2 b2
 rcases o1.nil_form with rfl | ⟨g1, c1, rfl⟩
 all_goals
  have O2 := Lib.hid o2
  have q0 := kq.cell 0
  clear o2 o1
  go_wp2_with fail
  rw [← H2.out]
  go_loopw [8, 9, 10] (fun u dv cv wr => u = .slice none 0 0 ∧ dv = .int .i64 1 ∧ cv = .pointer (some ⟨w1.heap.size, 0, none⟩) ∧ wr = W2) (fun _ _ _ _ => 0)
  case atStart => exact ⟨rfl, rfl, rfl, rfl⟩
  case round =>
   obtain ⟨rfl, rfl, rfl, rfl⟩ := hrel
   go_upto_region 5 with fail
   go_quiet (fail)
   go_wp2_with fail
   go_ret3
   exact ⟨_, _, _, rfl, O2.out.drewN _, Own.nil _ _, bb.trans (Qt.below ⟨_, rfl⟩ _)⟩
theorem nullSpace_any (F : FD) (tv : Value) (ra : Option Addr) (rc : Nat) (m : List (List Int)) (n : Nat) (w : World) (hT : Tabs w F tv) (hG : F.Good) (hx : RdS w ra m) (h0 : 0 < m.length) (hM : F.Mat n m) (hn1 : 1 ≤ n) (hn : n ≤ 1000) :
    Calls Try.prog 101 #[tv, .slice ra m.length rc, .int .i64 n] w fun e w' => ∃ v, e = .returned v ∧ OwnS w' w.heap.size v (nul F m n) ∧ Below w.heap.size w w' := by
 have hT0 := hT
 obtain ⟨aA, cA, aS, cS, aM, cM, aI, cI, rfl, tA, tS, tM, tI⟩ := hT
 have ok := hG.ok
 obtain ⟨n2, n64⟩ := ok.n_bd
 obtain ⟨W0, hHW⟩ : ∃ z, z = w.alloc (.cells #[.int .i64 F.n, .slice aA F.n cA, .slice aS F.n cS, .slice aM F.n cM, .slice aI F.n cI] 93) := ⟨_, rfl⟩
 have b0 : Below w.heap.size w W0 := by rw [hHW]; exact (Below.refl _ _).alloc (Nat.le_refl _) _
 have kT : Blk W0 w.heap.size 93 #[.int .i64 F.n, .slice aA F.n cA, .slice aS F.n cS, .slice aM F.n cM, .slice aI F.n cI] := by rw [hHW]; exact Blk.new _ _ _ rfl
 have sk0 : w.heap.size < W0.heap.size := kT.lt
 have HW := Lib.hid hHW
 clear hHW
 have hR := reduce_any F _ ra rc m n W0 (hT0.below b0) hG (hx.below b0) h0 hM
 obtain ⟨pv, hpv, hE, _⟩ := form_ech hG hM
 have hnb : nul F m n = form F (nulTo F (form F m n) (red F m n).2 n n) n := rfl
 have hfM := form_Mat ok hM
 have hfl := form_len F m n
 obtain ⟨fm, hfm⟩ : ∃ fm, fm = form F m n := ⟨_, rfl⟩
 obtain ⟨piv, hpiv⟩ : ∃ piv, piv = (red F m n).2 := ⟨_, rfl⟩
 rw [← hfm] at hR hE hnb hfM hfl
 rw [← hpiv] at hR hpv hnb hfl
 have hpb : ∀ j, j < piv.length → ∃ p : Nat, nth piv j = (p : Int) ∧ p < n := fun j hj => by
  have hj' : j < pv.length := by rw [hpv, List.length_map] at hj; exact hj
  refine ⟨pv.getD j 0, ?_, hE.lt j hj'⟩
  rw [hpv, nth_lt (by rw [List.length_map]; exact hj'), List.getElem_map, List.getD_eq_getElem?_getD, List.getElem?_eq_getElem hj']
  rfl
 have hmk := fun W => run_make_row' (P := Try.prog) 22 2 (.int .i64 0) 8 Try.underlying22 Try.info_i64 rfl .i64 .i64 n (by omega) (by omega) W
 have hRE := fun (b : Option Addr) (d : Nat) (xss : List (List Int)) (W : World) (hB : Below w.heap.size w W) (hy : RdS W b xss) (hMx : F.Mat n xss) (hp : 0 < xss.length) => reduce_any F _ b d xss n W (hT0.below hB) hG hy hp hMx
 have HR := hide hR
 have HRE := hide hRE
 have HPB := hide hpb
 have HNB := Lib.hid hnb
 have HFM := hide hfM
 have HFL := Lib.hid hfl
 have HMK := hide hmk
 have TS := hide (tS.below b0)
 clear hR hRE hpb hnb hfM hfl hmk hpv hE hfm hpiv hT0 tA tS tM tI hx hM
 have f0 := kT.cell 0
 have f1 := kT.cell 1
 have f2 := kT.cell 2
 have f3 := kT.cell 3
 have f4 := kT.cell 4
 go_enter Try.func101, Try.ntmps101
 go_upto_region 1 with fail
 rw [← HW.out]
 go_wp2_with fail
 refine (unhide HR).mono ?_
 rintro e w1 ⟨v1, u1, d1, rfl, oV, oU, b1⟩
 obtain ⟨av, cv, rfl, rV⟩ := oV.form
 obtain ⟨au, cu, rfl, rU, _⟩ := oU.form
 have k1 := kT.below b1 kT.lt
 have z1 := b1.size
 have bw1 : Below w.heap.size w w1 := b0.trans (b1.mono (Nat.le_of_lt sk0))
 have RV := hide rV
 have hpl30 := rU.len
 have RU := hide rU
 clear f0 f1 f2 f3 f4 oV oU rV rU
 go_wp2_with fail
 go_loopw [10, 23] (fun v cv wr => ∃ c : Nat, cv = .int .i64 c ∧ c ≤ n ∧ Hid (OwnS wr w1.heap.size v (nulTo F fm piv n c)) ∧ Below w1.heap.size w1 wr) (fun _ cv _ => n - (intOf cv).toNat)
 case atStart => exact ⟨0, rfl, Nat.zero_le _, OwnS.nil _ _, Below.refl _ _⟩
 case round =>
  obtain ⟨c, rfl, hc, ho, hb⟩ := hrel
  rename World => wo
  have hsz := hb.size
  by_cases hcn : c < n
  · have hcon := contains_any au cu piv c wo ((unhide RU).below hb)
    have hst : nulTo F fm piv n (c + 1) = if piv.contains (c : Int) = true then nulTo F fm piv n c else nulTo F fm piv n c ++ [nulV F fm piv n c] := rfl
    obtain ⟨r, hr⟩ : ∃ r, piv.contains (c : Int) = r := ⟨_, rfl⟩
    rw [hr] at hcon hst
    have HCON := hide hcon
    clear hcon hr
    cases r
    · rw [if_neg (by simp)] at hst
      have HST := Lib.hid hst
      have hlen : (nulTo F fm piv n c).length + 1 ≤ 1073741824 := by have := nulTo_le F fm piv n c; omega
      have hmk := unhide HMK
      clear hst
      go_wp2_with fail
      refine (unhide HCON).mono ?_
      rintro e w2 ⟨rfl, rfl⟩
      go_upto_region 8 with fail
      obtain ⟨W2, hW2⟩ : ∃ z, z = wo.alloc (.cells (madeCells #[.int .i64 0] n) 2) := ⟨_, rfl⟩
      have oz : Own W2 wo.heap.size (.slice (some ⟨wo.heap.size, 0, none⟩) n n) (zeros n) := by rw [hW2]; exact Own.zeros wo (Nat.le_refl _) (by omega)
      have bz : Below wo.heap.size wo W2 := by rw [hW2]; exact (Below.refl _ _).alloc (Nat.le_refl _) _
      have oc := oz.cell (j := c) (by rw [zeros_len]; exact hcn)
      have of_ := oz.frozen c
      have ou := (oz.set c 1).1
      have bu : Below wo.heap.size wo (W2.setCell ⟨wo.heap.size, c, none⟩ (.int .i64 1)) := bz.setCell (Nat.le_refl _) _
      rw [← hW2]
      clear hW2 oz bz hmk
      go_upto_region 9 with fail
      obtain ⟨W3, hW3⟩ : ∃ z, z = W2.setCell ⟨wo.heap.size, c, none⟩ (.int .i64 1) := ⟨_, rfl⟩
      rw [← hW3] at ou bu ⊢
      have s3 := bu.size
      have OU := Lib.hid ou
      clear hW3 oc of_ ou
      go_wp2_with fail
      go_loopw [36] (fun jv wr => ∃ j : Nat, jv = .int .i64 j ∧ j ≤ piv.length ∧ Hid (Own wr wo.heap.size (.slice (some ⟨wo.heap.size, 0, none⟩) n n) (nulIn F fm piv n c j)) ∧ Below wo.heap.size wo wr) (fun jv _ => piv.length - (intOf jv).toNat)
      case atStart => exact ⟨0, rfl, Nat.zero_le _, OU, bu⟩
      case round =>
       obtain ⟨j, rfl, hj, ho2, hb2⟩ := hrel
       by_cases hjl : j < piv.length
       · have hb12 := hb.trans (hb2.mono hsz)
         obtain ⟨gu, ou, rfl, _, hcu⟩ := ((unhide RU).below hb12).at_ (by omega)
         obtain ⟨p, hp, hpn⟩ := unhide HPB j hjl
         have hu := hcu j hjl
         rw [hp] at hu
         have hjf : j < fm.length := by rw [HFL.out]; exact hjl
         obtain ⟨gv, ov, rfl, _, hcv⟩ := ((unhide RV).below hb12).at_ (by omega)
         obtain ⟨ay, cy, hv1, hvr⟩ := hcv j hjf
         have hmt := Mat_nth (unhide HFM) hjf
         rw [hmt.1] at hv1
         obtain ⟨gy, oy, rfl, _, hcy⟩ := hvr.at_ (by rw [hmt.1]; omega)
         have hy := hcy c (by rw [hmt.1]; exact hcn)
         have hyr := hmt.2 _ (nth_mem (k := c) (by rw [hmt.1]; exact hcn))
         have hst2 : nulIn F fm piv n c (j + 1) = (nulIn F fm piv n c j).set p (F.sub 0 (nth (nthL fm j) c)) := by rw [nulIn, hp]; rfl
         obtain ⟨y, hy'⟩ := Int.eq_ofNat_of_zero_le hyr.1
         rw [hy'] at hy hyr hst2
         have hyn : y < F.n := by omega
         obtain ⟨bS, oS, bs, os, cs, rfl, s1, s2⟩ := tab_at ((unhide TS).below (b1.trans (hb12.mono z1))) (i := 0) (j := y) (by omega) hyn
         rw [Nat.add_zero] at s1
         have hn0 : 0 < F.n := by omega
         have kx := (k1.below hb k1.lt).below hb2 (by have := k1.lt; omega)
         have t2 := kx.cell 2
         have hxl := nulIn_len F fm piv n c j
         have xc := ho2.out.cell (j := p) (by rw [hxl]; exact hpn)
         have xf := ho2.out.frozen p
         obtain ⟨D, hD⟩ : ∃ D, D = F.sub 0 y := ⟨_, rfl⟩
         replace s2 : wr.cell? ⟨bs, os + y, none⟩ = some (.int .i64 D) := by rw [hD]; exact s2
         rw [← hD] at hst2
         obtain ⟨old, hold⟩ : ∃ old, old = nth (nulIn F fm piv n c j) p := ⟨_, rfl⟩
         rw [← hold] at xc
         have HST2 := Lib.hid hst2
         clear hold hD hst2 hy' hp hcu hcv hvr hcy hmt hxl kx hyr
         go_upto_region 12 with fail
         go_region
         go_wp2
         go_roundw
         case rel =>
          have hs := ho2.out.set p D
          refine ⟨j + 1, by go_num, by omega, ?_, (hb2.grown hs.2 hb2.size (fun q hq => by injection hq; omega)).drew⟩
          show Own _ _ _ _
          rw [HST2.out]
          exact hs.1.drewN 1
         case measure => simp only [intOf]; omega
       · have hke : j = piv.length := by omega
         have HE := Lib.hid hke
         clear hke
         have o5 := ho2.out
         rw [HE.out] at o5
         have hnl : (nulV F fm piv n c).length = n := nulIn_len _ _ _ _ _ _
         have o5 : Own wr wo.heap.size (.slice (some ⟨wo.heap.size, 0, none⟩) n n) (nulV F fm piv n c) := o5
         have hsx := hb2.size
         have hH := ho.out.toH.belw hb2 (Nat.le_refl _)
         have O5 := Lib.hid o5
         clear o5 hnl
         go_wp2_with (at_builtin; refine wpList_append_row rfl (.tmp 58) (.tmp 60) rfl (v := u10) rfl (hH.belw ((Below.refl _ _).alloc (Nat.le_refl _) _) hsx) _ rfl ((Blk.new wr 22 #[.slice (some ⟨wo.heap.size, 0, none⟩) n n] rfl).cell 0) (O5.out.alloc _) hsz (by simp; omega) hlen ?_; intro v2 w2 o2 g2 _)
         go_roundw
         case rel =>
          refine ⟨c + 1, by go_num, by omega, ?_, Below.stepS ((hb.trans (hb2.mono hsz)).alloc (by omega) _) g2 (hH.belw ((Below.refl _ _).alloc (Nat.le_refl _) _) hsx).own (Nat.le_refl _) (by simp; omega)⟩
          show OwnS _ _ _ _
          rw [HST.out]
          exact o2
         case measure => simp only [intOf]; omega
    · rw [if_pos rfl] at hst
      have HST := Lib.hid hst
      clear hst
      go_wp2_with fail
      refine (unhide HCON).mono ?_
      rintro e w2 ⟨rfl, rfl⟩
      go_wp2
      go_roundw
      case rel => exact ⟨c + 1, by go_num, by omega, by show OwnS _ _ _ _; rw [HST.out]; exact ho.out, hb⟩
      case measure => simp only [intOf]; omega
  · have hke : c = n := by omega
    have HE := Lib.hid hke
    clear hke
    have o5 := ho.out
    rw [HE.out] at o5
    have hMb := nulTo_Mat ok fm piv n n
    obtain ⟨bs, hbs⟩ : ∃ bs, bs = nulTo F fm piv n n := ⟨_, rfl⟩
    rw [← hbs] at o5 hMb
    have hnb : nul F m n = form F bs n := by rw [HNB.out, hbs]
    have HNB2 := Lib.hid hnb
    have kr := k1.below hb k1.lt
    have f0 := kr.cell 0
    have f1 := kr.cell 1
    have f2 := kr.cell 2
    have f3 := kr.cell 3
    have f4 := kr.cell 4
    obtain ⟨ab, cb, rfl, rb⟩ := o5.form
    have hbw := bw1.trans (hb.mono (by have := bw1.size; omega))
    have zw := hbw.size
    have hre : Calls Try.prog 155 #[.agg #[.int .i64 F.n, .slice aA F.n cA, .slice aS F.n cS, .slice aM F.n cM, .slice aI F.n cI], .slice ab bs.length cb] wo fun e w' => ∃ v u d, e = .returned (.tuple #[v, u, .int .i64 d]) ∧ OwnS w' wo.heap.size v (form F bs n) ∧ Below wo.heap.size wo w' := by
     by_cases h0 : 0 < bs.length
     · refine (unhide HRE ab cb bs wo hbw rb hMb h0).mono ?_
       rintro e w2 ⟨v, u, d, rfl, o, _, b⟩
       exact ⟨v, u, d, rfl, o, b⟩
     · have hbn : bs = [] := List.eq_nil_of_length_eq_zero (by omega)
       rw [hbn, form_nil]
       refine (reduce_nil F aA cA aS cS aM cM aI cI ab cb wo).mono ?_
       rintro e w2 ⟨v, u, d, rfl, o, _, b⟩
       exact ⟨v, u, d, rfl, o, b⟩
    have HRX := hide hre
    clear hre hbs hnb hMb o5 rb ho
    go_wp2_with fail
    refine (unhide HRX).mono ?_
    rintro e w2 ⟨v, u, d, rfl, o, b⟩
    go_wp2
    go_ret
    exact ⟨_, rfl, by rw [HNB2.out]; exact o.mono zw, hbw.trans (b.mono zw)⟩
end Go.Proofs.Ytgmgpcaahanmiaa
namespace Go.Proofs.Ytgmgpcaahanmiaa
open Go.RowKit
attribute [local go_sem ↓] Go.wp_at_zero Go.wp_at_succ
theorem l00Has_any (a : Option Addr) (c : Nat) (xs : List Int) (x : Int) (w : World) (hx : Rd w a xs) : Calls Try.prog 201 #[.slice a xs.length c, .int .i64 x] w fun e w' => e = .returned (.bool (xs.contains x)) ∧ w = w' := by
 have hxl := hx.len
 have hca : xs.contains x = xs.any (fun y => y == x) := by
  rw [List.contains_eq_any_beq]
  congr 1
  funext y
  exact Bool.eq_iff_iff.2 ⟨fun h => by simpa using (by simpa using h : x = y).symm, fun h => by simpa using (by simpa using h : y = x).symm⟩
 rw [hca, any_firstOf]
 generalize hr : firstOf (fun y => y == x) xs = r
 have HR := Lib.hid hr
 clear hr hca
 go_enter Try.func201, Try.ntmps201
 go_wp2
 go_loopw [5] (fun i wr => ∃ k : Nat, i = .int .i64 k ∧ k ≤ xs.length ∧ Hid (∀ j, j < k → (nth xs j == x) = false) ∧ w = wr) (fun i _ => xs.length - (intOf i).toNat)
 case atStart => exact ⟨0, rfl, Nat.zero_le _, fun j hj => by omega, rfl⟩
 case round =>
  obtain ⟨k, rfl, hk, hq, rfl⟩ := hrel
  by_cases hkl : k < xs.length
  · obtain ⟨b1, o1, rfl, _, hc⟩ := hx.at_ (by omega)
    have h1 := hc k hkl
    obtain ⟨s, hs⟩ : ∃ s, (nth xs k == x) = s := ⟨_, rfl⟩
    have HS := Lib.hid hs
    generalize nth xs k = y at h1 hs
    clear hc
    cases s
    · go_wp2
      go_roundw
      case rel =>
       refine ⟨k + 1, by go_num, by omega, fun j hj => ?_, trivial⟩
       rcases Nat.lt_succ_iff_lt_or_eq.1 hj with h | rfl
       · exact hq.out j h
       · exact HS.out
      case measure => simp [intOf]; omega
    · go_wp2
      go_ret
      exact ⟨ret_bool (by rw [← HR.out, firstOf_yes (p := fun y => y == x) hkl HS.out hq.out]; simp), rfl⟩
  · go_wp2
    go_ret
    exact ⟨ret_bool (by rw [← HR.out, firstOf_no (p := fun y => y == x) (fun j hj => hq.out j (by omega))]; simp), rfl⟩
theorem l17Null_any (g : Nat) (F : FD) (ra : Option Addr) (rc : Nat) (m : List (List Int)) (n : Nat) (w : World) (hF : PF w g F) (hG : F.Good) (hx : RdS w ra m) (h0 : 0 < m.length) (hM : F.Mat n m) (hn1 : 1 ≤ n) (hn : n ≤ 1000) :
    Calls Try.prog 124 #[.pointer (some ⟨g, 0, none⟩), .slice ra m.length rc] w fun e w' => ∃ v, e = .returned v ∧ OwnS w' w.heap.size v (nul F m n) ∧ Below w.heap.size w w' := by
 have ok := hG.ok
 have hp2 := ok.p2
 have hp64 := ok.p64
 obtain ⟨n2, n64⟩ := ok.n_bd
 have hml := hx.len
 have hR := l17Reduce_any g F ra rc m n w hF hG hx h0 hM
 obtain ⟨gb, ob, rfl, hgb, hcc⟩ := hx.at_ h0
 obtain ⟨ai0, ci0, h00, _⟩ := hcc 0 h0
 rw [Nat.add_zero, (Mat_nth hM h0).1] at h00
 obtain ⟨pv, hpv, hE, _⟩ := form_ech hG hM
 have hnb : nul F m n = form F (nulTo F (form F m n) (red F m n).2 n n) n := rfl
 have hfM := red_Mat ok hM n
 have hpl := red_piv F m n
 have hrl := red_len F m n
 have hft : ∀ j, j < (red F m n).2.length → nthL (form F m n) j = nthL (red F m n).1 j := fun j hj => by rw [form, nthL_take hj]
 obtain ⟨fm, hfm⟩ : ∃ fm, fm = form F m n := ⟨_, rfl⟩
 obtain ⟨piv, hpiv⟩ : ∃ piv, piv = (red F m n).2 := ⟨_, rfl⟩
 obtain ⟨rr, hrr⟩ : ∃ rr, rr = (red F m n).1 := ⟨_, rfl⟩
 rw [← hfm] at hE hnb hft
 rw [← hpiv] at hR hpv hnb hpl hft
 rw [← hrr] at hR hfM hrl hft
 have hpb : ∀ j, j < piv.length → ∃ p : Nat, nth piv j = (p : Int) ∧ p < n := fun j hj => by
  have hj' : j < pv.length := by rw [hpv, List.length_map] at hj; exact hj
  refine ⟨pv.getD j 0, ?_, hE.lt j hj'⟩
  rw [hpv, nth_lt (by rw [List.length_map]; exact hj'), List.getElem_map, List.getD_eq_getElem?_getD, List.getElem?_eq_getElem hj']
  rfl
 have hmk := fun W => run_make_row' (P := Try.prog) 22 2 (.int .i64 0) 8 Try.underlying22 Try.info_i64 rfl .i64 .i64 n (by omega) (by omega) W
 have hFO := fun (b : Option Addr) (d : Nat) (xss : List (List Int)) (W : World) (hB : Below w.heap.size w W) (hy : RdS W b xss) (hMx : F.Mat n xss) (hp : 0 < xss.length) => l17Form_any g F b d xss n W (hF.below hB) hG hy hp hMx
 have hglt := hF.lt
 have hc0 := hF.1
 have HF := hide hF
 have HR := hide hR
 have HFO := hide hFO
 have HPB := hide hpb
 have HNB := Lib.hid hnb
 have HFM := hide hfM
 have HPL := hide hpl
 have HRL := Lib.hid hrl
 have HFT := hide hft
 have HMK := hide hmk
 clear hR hFO hpb hnb hfM hpl hrl hft hmk hpv hE hfm hpiv hrr hx hM hcc hF
 have hwr : IntKind.i64.wrap (F.p - 1) = F.p - 1 := IntWalk.i64_in _ (by omega)
 go_enter Try.func124, Try.ntmps124
 go_wp2_with fail
 refine (unhide HR).mono ?_
 rintro e w1 ⟨v1, u1, rfl, oQ, oU, b1⟩
 have oV := oQ.own
 obtain ⟨av, cv, rfl, rV⟩ := oV.form
 obtain ⟨au, cu, rfl, rU, _⟩ := oU.form
 have z1 := b1.size
 have RV := hide rV
 have hpl30 := rU.len
 have RU := hide rU
 have hgl1 : g < w1.heap.size := by omega
 have hgb1 : gb < w1.heap.size := by omega
 have h00 := (b1.cell (p := ⟨gb, ob, none⟩) hgb).trans h00
 have hc0 := (b1.cell (p := ⟨g, 0, none⟩) hglt).trans hc0
 clear oQ oV oU rV rU
 go_wp2_with fail
 go_loopw [7, 8] (fun v cv wr => ∃ c : Nat, cv = .int .i64 c ∧ c ≤ n ∧ Hid (OwnS wr w1.heap.size v (nulTo F fm piv n c)) ∧ Below w1.heap.size w1 wr) (fun _ cv _ => n - (intOf cv).toNat)
 case atStart => exact ⟨0, rfl, Nat.zero_le _, OwnS.empty w1 (Nat.le_refl _), (Below.refl _ _).alloc (Nat.le_refl _) _⟩
 case round =>
  obtain ⟨c, rfl, hc, ho, hb⟩ := hrel
  rename World => wo
  have hsz := hb.size
  have h00r := (hb.cell (p := ⟨gb, ob, none⟩) hgb1).trans h00
  by_cases hcn : c < n
  · have hcon := l00Has_any au cu piv c wo ((unhide RU).below hb)
    have hst : nulTo F fm piv n (c + 1) = if piv.contains (c : Int) = true then nulTo F fm piv n c else nulTo F fm piv n c ++ [nulV F fm piv n c] := rfl
    obtain ⟨r, hr⟩ : ∃ r, piv.contains (c : Int) = r := ⟨_, rfl⟩
    rw [hr] at hcon hst
    have HCON := hide hcon
    clear hcon hr
    cases r
    · rw [if_neg (by simp)] at hst
      have HST := Lib.hid hst
      have hlen : (nulTo F fm piv n c).length + 1 ≤ 1073741824 := by have := nulTo_le F fm piv n c; omega
      have hmk := unhide HMK
      clear hst
      go_wp2_with fail
      refine (unhide HCON).mono ?_
      rintro e w2 ⟨rfl, rfl⟩
      go_upto_region 8 with fail
      obtain ⟨W2, hW2⟩ : ∃ z, z = wo.alloc (.cells (madeCells #[.int .i64 0] n) 2) := ⟨_, rfl⟩
      have oz : Own W2 wo.heap.size (.slice (some ⟨wo.heap.size, 0, none⟩) n n) (zeros n) := by rw [hW2]; exact Own.zeros wo (Nat.le_refl _) (by omega)
      have bz : Below wo.heap.size wo W2 := by rw [hW2]; exact (Below.refl _ _).alloc (Nat.le_refl _) _
      have oc := oz.cell (j := c) (by rw [zeros_len]; exact hcn)
      have of_ := oz.frozen c
      have ou := (oz.set c 1).1
      have bu : Below wo.heap.size wo (W2.setCell ⟨wo.heap.size, c, none⟩ (.int .i64 1)) := bz.setCell (Nat.le_refl _) _
      rw [← hW2]
      clear hW2 oz bz hmk
      go_upto_region 9 with fail
      obtain ⟨W3, hW3⟩ : ∃ z, z = W2.setCell ⟨wo.heap.size, c, none⟩ (.int .i64 1) := ⟨_, rfl⟩
      rw [← hW3] at ou bu ⊢
      have s3 := bu.size
      have OU := Lib.hid ou
      clear hW3 oc of_ ou
      go_wp2_with fail
      go_loopw [10] (fun jv wr => ∃ j : Nat, jv = .int .i64 j ∧ j ≤ piv.length ∧ Hid (Own wr wo.heap.size (.slice (some ⟨wo.heap.size, 0, none⟩) n n) (nulIn F fm piv n c j)) ∧ Below wo.heap.size wo wr) (fun jv _ => piv.length - (intOf jv).toNat)
      case atStart => exact ⟨0, rfl, Nat.zero_le _, OU, bu⟩
      case round =>
       obtain ⟨j, rfl, hj, ho2, hb2⟩ := hrel
       by_cases hjl : j < piv.length
       · have hb12 := hb.trans (hb2.mono hsz)
         obtain ⟨gu, ou, rfl, hgu, hcu⟩ := (unhide RU).at_ (by omega)
         obtain ⟨p, hp, hpn⟩ := unhide HPB j hjl
         have hu := hcu j hjl
         rw [hp] at hu
         have hjf : j < rr.length := by have := unhide HPL; have := HRL.out; omega
         obtain ⟨gv, ov, rfl, hgv, hcv⟩ := (unhide RV).at_ (by omega)
         obtain ⟨ay, cy, hv1, hvr⟩ := hcv j hjf
         have hmt := Mat_nth (unhide HFM) hjf
         rw [hmt.1] at hv1
         obtain ⟨gy, oy, rfl, hgy, hcy⟩ := hvr.at_ (by rw [hmt.1]; omega)
         have hy := hcy c (by rw [hmt.1]; exact hcn)
         have hyr := hmt.2 _ (nth_mem (k := c) (by rw [hmt.1]; exact hcn))
         have hst2 : nulIn F fm piv n c (j + 1) = (nulIn F fm piv n c j).set p (F.sub 0 (nth (nthL rr j) c)) := by rw [nulIn, hp, unhide HFT j hjl]; rfl
         obtain ⟨y, hy'⟩ : ∃ y, y = nth (nthL rr j) c := ⟨_, rfl⟩
         rw [← hy'] at hy hyr hst2
         have hu := (hb12.cell (p := ⟨gu, ou + j, none⟩) hgu).trans hu
         have hv1 := (hb12.cell (p := ⟨gv, ov + j, none⟩) hgv).trans hv1
         have hy := (hb12.cell (p := ⟨gy, oy + c, none⟩) hgy).trans hy
         have hc0x := (hb12.cell (p := ⟨g, 0, none⟩) hgl1).trans hc0
         have hxl := nulIn_len F fm piv n c j
         have xc := ho2.out.cell (j := p) (by rw [hxl]; exact hpn)
         have xf := ho2.out.frozen p
         have hsx := hb2.size
         have hbw := b1.trans (hb12.mono z1)
         have hsum := fun W (h : Below wr.heap.size wr W) => (l03Sum_any g F 0 y (F.p - 1) W ((unhide HF).below (hbw.trans (h.mono (by omega)))) ok (by omega) (by omega) hyr.1 (by omega) (by omega) (by omega)).mono fun e w' q => And.intro q.1 (Below.chain h q.2)
         have hls : lin (F.p - 1) F.p F.k 0 y = F.sub 0 y := lin_sign F.k 0 y
         rw [hls] at hsum
         change ∀ W, Below wr.heap.size wr W → Calls Try.prog 82 #[.pointer (some ⟨g, 0, none⟩), .int .i64 0, .int .i64 y, .int .i64 (F.p - 1)] W fun r w' => r = .returned (.int .i64 (F.sub 0 y)) ∧ Below wr.heap.size wr w' at hsum
         obtain ⟨D, hD⟩ : ∃ D, D = F.sub 0 y := ⟨_, rfl⟩
         rw [← hD] at hsum hst2
         obtain ⟨old, hold⟩ : ∃ old, old = nth (nulIn F fm piv n c j) p := ⟨_, rfl⟩
         rw [← hold] at xc
         have hG1 : wo.heap.size < wr.heap.size := World.block_lt_of_cell? wr _ xc
         have later : ∀ W, Below wr.heap.size wr W → (W.cell? ⟨wo.heap.size, p, none⟩ = some (.int .i64 old) ∧ W.frozen? ⟨wo.heap.size, p, none⟩ = false) := fun W h => ⟨(h.cell (p := ⟨wo.heap.size, p, none⟩) hG1).trans xc, (ho2.out.below h (Nat.le_refl _)).frozen p⟩
         have LT := hide later
         have HSUM := hide hsum
         have HST2 := Lib.hid hst2
         clear hold hD hst2 hy' hp hcu hcv hvr hcy hmt hxl hyr hls hsum later
         have BX := hide (show ∀ W, Below wr.heap.size wr W → (Below wo.heap.size wo W ∧ W.cell? ⟨gu, ou + j, none⟩ = some (.int .i64 p) ∧ W.cell? ⟨gv, ov + j, none⟩ = some (.slice (some ⟨gy, oy, none⟩) n cy) ∧ W.cell? ⟨gy, oy + c, none⟩ = some (.int .i64 y) ∧ W.cell? ⟨g, 0, none⟩ = some (.int .i64 F.p)) from fun W h => ⟨hb2.trans (h.mono hsx), (h.cell (p := ⟨gu, ou + j, none⟩) (by show gu < _; omega)).trans hu, (h.cell (p := ⟨gv, ov + j, none⟩) (by show gv < _; omega)).trans hv1, (h.cell (p := ⟨gy, oy + c, none⟩) (by show gy < _; omega)).trans hy, (h.cell (p := ⟨g, 0, none⟩) (by show g < _; omega)).trans hc0x⟩)
         have BZ := hide (show ∀ W (_ : Below wo.heap.size wo W), Below wr.heap.size wr W → (Below wo.heap.size wo (W.setCell ⟨wo.heap.size, p, none⟩ (.int .i64 D)) ∧ (W.setCell ⟨wo.heap.size, p, none⟩ (.int .i64 D)).cell? ⟨gu, ou + j, none⟩ = some (.int .i64 p) ∧ (W.setCell ⟨wo.heap.size, p, none⟩ (.int .i64 D)).cell? ⟨gv, ov + j, none⟩ = some (.slice (some ⟨gy, oy, none⟩) n cy) ∧ (W.setCell ⟨wo.heap.size, p, none⟩ (.int .i64 D)).cell? ⟨gy, oy + c, none⟩ = some (.int .i64 y) ∧ (W.setCell ⟨wo.heap.size, p, none⟩ (.int .i64 D)).cell? ⟨g, 0, none⟩ = some (.int .i64 F.p)) from fun W hw h => by
          have k := (Below.refl wo.heap.size W).setCell (p := ⟨wo.heap.size, p, none⟩) (Nat.le_refl _) (.int .i64 D)
          obtain ⟨_, q1, q2, q3, q4⟩ := unhide BX W h
          exact ⟨hw.setCell (Nat.le_refl _) _, (k.cell (p := ⟨gu, ou + j, none⟩) (by show gu < _; omega)).trans q1, (k.cell (p := ⟨gv, ov + j, none⟩) (by show gv < _; omega)).trans q2, (k.cell (p := ⟨gy, oy + c, none⟩) (by show gy < _; omega)).trans q3, (k.cell (p := ⟨g, 0, none⟩) (by show g < _; omega)).trans q4⟩)
         go_upto_region 12 with fail
         refine wp_region_noPanic ?_
         refine wp_region_seq (S := (fun W => Below wo.heap.size wo W ∧ W.cell? ⟨gu, ou + j, none⟩ = some (.int .i64 p) ∧ W.cell? ⟨gv, ov + j, none⟩ = some (.slice (some ⟨gy, oy, none⟩) n cy) ∧ W.cell? ⟨gy, oy + c, none⟩ = some (.int .i64 y) ∧ W.cell? ⟨g, 0, none⟩ = some (.int .i64 F.p))) [true, true, true, true, true, true, true, true, true, true, true, true, true, true, true, true, true, true, false, true, false] (by kernel_rfl) (by kernel_rfl) (by kernel_rfl) rfl (fun _ _ _ _ _ h => h) ?_ (fun hHeld => ?_)
         · exact (unhide BX) _ (Below.refl _ _).drew
         simp only [List.toList_toArray]
         refine SeqH.take (v := ?hv1) (by rfl) ?hy1 ?hr1
         case hy1 =>
          intro w hSw
          try dsimp only at hSw
          go_simp
          try (with_reducible rfl)
         try simp only [Act.put, List.setIfInBounds_toArray, List.set_cons_zero, List.set_cons_succ]
         refine SeqH.take (v := ?hv2) (by rfl) ?hy2 ?hr2
         case hy2 =>
          intro w hSw
          try dsimp only at hSw
          go_simp
          try (with_reducible rfl)
         try simp only [Act.put, List.setIfInBounds_toArray, List.set_cons_zero, List.set_cons_succ]
         refine SeqH.take (v := ?hv3) (by rfl) ?hy3 ?hr3
         case hy3 =>
          intro w hSw
          try dsimp only at hSw
          go_simp
          try (with_reducible rfl)
         try simp only [Act.put, List.setIfInBounds_toArray, List.set_cons_zero, List.set_cons_succ]
         refine SeqH.take (v := ?hv4) (by rfl) ?hy4 ?hr4
         case hy4 =>
          intro w hSw
          try dsimp only at hSw
          go_simp
          try (with_reducible rfl)
         try simp only [Act.put, List.setIfInBounds_toArray, List.set_cons_zero, List.set_cons_succ]
         refine SeqH.take (v := ?hv5) (by rfl) ?hy5 ?hr5
         case hy5 =>
          intro w hSw
          try dsimp only at hSw
          go_simp
          try (with_reducible rfl)
         try simp only [Act.put, List.setIfInBounds_toArray, List.set_cons_zero, List.set_cons_succ]
         refine SeqH.take (v := ?hv6) (by rfl) ?hy6 ?hr6
         case hy6 =>
          intro w hSw
          try dsimp only at hSw
          go_simp
          try (with_reducible rfl)
         try simp only [Act.put, List.setIfInBounds_toArray, List.set_cons_zero, List.set_cons_succ]
         refine SeqH.take (v := ?hv7) (by rfl) ?hy7 ?hr7
         case hy7 =>
          intro w hSw
          try dsimp only at hSw
          go_simp
          try (with_reducible rfl)
         try simp only [Act.put, List.setIfInBounds_toArray, List.set_cons_zero, List.set_cons_succ]
         refine SeqH.take (v := ?hv8) (by rfl) ?hy8 ?hr8
         case hy8 =>
          intro w hSw
          try dsimp only at hSw
          go_simp
          try (with_reducible rfl)
         try simp only [Act.put, List.setIfInBounds_toArray, List.set_cons_zero, List.set_cons_succ]
         refine SeqH.take (v := ?hv9) (by rfl) ?hy9 ?hr9
         case hy9 =>
          intro w hSw
          try dsimp only at hSw
          go_simp
          try (with_reducible rfl)
         try simp only [Act.put, List.setIfInBounds_toArray, List.set_cons_zero, List.set_cons_succ]
         refine SeqH.take (v := ?hv10) (by rfl) ?hy10 ?hr10
         case hy10 =>
          intro w hSw
          try dsimp only at hSw
          go_simp
          try (with_reducible rfl)
         try simp only [Act.put, List.setIfInBounds_toArray, List.set_cons_zero, List.set_cons_succ]
         refine SeqH.take (v := ?hv11) (by rfl) ?hy11 ?hr11
         case hy11 =>
          intro w hSw
          try dsimp only at hSw
          go_simp
          try (with_reducible rfl)
         try simp only [Act.put, List.setIfInBounds_toArray, List.set_cons_zero, List.set_cons_succ]
         refine SeqH.take (v := ?hv12) (by rfl) ?hy12 ?hr12
         case hy12 =>
          intro w hSw
          try dsimp only at hSw
          go_simp
          try (with_reducible rfl)
         try simp only [Act.put, List.setIfInBounds_toArray, List.set_cons_zero, List.set_cons_succ]
         refine SeqH.take (v := ?hv13) (by rfl) ?hy13 ?hr13
         case hy13 =>
          intro w hSw
          try dsimp only at hSw
          go_simp
          try (with_reducible rfl)
         try simp only [Act.put, List.setIfInBounds_toArray, List.set_cons_zero, List.set_cons_succ]
         refine SeqH.take (v := ?hv14) (by rfl) ?hy14 ?hr14
         case hy14 =>
          intro w hSw
          try dsimp only at hSw
          go_simp
          try (with_reducible rfl)
         try simp only [Act.put, List.setIfInBounds_toArray, List.set_cons_zero, List.set_cons_succ]
         refine SeqH.take (v := ?hv15) (by rfl) ?hy15 ?hr15
         case hy15 =>
          intro w hSw
          try dsimp only at hSw
          go_simp
          try (with_reducible rfl)
         try simp only [Act.put, List.setIfInBounds_toArray, List.set_cons_zero, List.set_cons_succ]
         refine SeqH.take (v := ?hv16) (by rfl) ?hy16 ?hr16
         case hy16 =>
          intro w hSw
          try dsimp only at hSw
          go_simp
          try (with_reducible rfl)
         try simp only [Act.put, List.setIfInBounds_toArray, List.set_cons_zero, List.set_cons_succ]
         refine SeqH.take (v := ?hv17) (by rfl) ?hy17 ?hr17
         case hy17 =>
          intro w hSw
          try dsimp only at hSw
          go_simp
          try (with_reducible rfl)
         try simp only [Act.put, List.setIfInBounds_toArray, List.set_cons_zero, List.set_cons_succ]
         refine SeqH.take (v := ?hv18) (by rfl) ?hy18 ?hr18
         case hy18 =>
          intro w hSw
          try dsimp only at hSw
          go_simp
          try (with_reducible rfl)
         try simp only [Act.put, List.setIfInBounds_toArray, List.set_cons_zero, List.set_cons_succ]
         refine SeqH.call (fun K hK => ?_)
         go_simp
         refine (unhide HSUM _ (Below.refl _ _).drew).mono ?_
         rintro e W2 ⟨rfl, b2⟩
         have d37 := (unhide LT _ b2).1
         have f37 := (unhide LT _ b2).2
         go_wp2_with fail
         refine hK.out _ _ ?_ (fun hHeld => ?_)
         · exact (unhide BX) _ b2
         clear hK K
         try simp only [Act.put, List.setIfInBounds_toArray, List.set_cons_zero, List.set_cons_succ]
         refine SeqH.take (v := ?hv19) (by rfl) ?hy19 ?hr19
         case hy19 =>
          intro w hSw
          try dsimp only at hSw
          go_simp
          try (with_reducible rfl)
         try simp only [Act.put, List.setIfInBounds_toArray, List.set_cons_zero, List.set_cons_succ]
         refine SeqH.call (fun K hK => ?_)
         go_simp
         refine hK.out _ _ ?_ (fun hHeld => ?_)
         · exact (unhide BZ) _ (hb2.trans (b2.mono hsx)) b2
         clear hK K
         try simp only [Act.put, List.setIfInBounds_toArray, List.set_cons_zero, List.set_cons_succ]
         refine SeqH.done (NoPanic.normal ?_)
         go_wp2
         go_roundw
         case rel =>
          have hs := (ho2.out.below b2 (Nat.le_refl _)).set p D
          refine ⟨j + 1, by go_num, by omega, ?_, (hb2.trans (b2.mono hsx)).grown hs.2 (by have := b2.size; omega) (fun q hq => by injection hq; omega)⟩
          show Own _ _ _ _
          rw [HST2.out]
          exact hs.1
         case measure => simp only [intOf]; omega
       · have hke : j = piv.length := by omega
         have HE := Lib.hid hke
         clear hke
         have o5 := ho2.out
         rw [HE.out] at o5
         have o5 : Own wr wo.heap.size (.slice (some ⟨wo.heap.size, 0, none⟩) n n) (nulV F fm piv n c) := o5
         have hsx := hb2.size
         have hH := ho.out.toH.belw hb2 (Nat.le_refl _)
         have O5 := Lib.hid o5
         clear o5
         go_wp2_with (at_builtin; refine wpList_append_row rfl (.tmp 67) (.tmp 69) rfl (v := u7) rfl (hH.belw ((Below.refl _ _).alloc (Nat.le_refl _) _) hsx) _ rfl ((Blk.new wr 22 #[.slice (some ⟨wo.heap.size, 0, none⟩) n n] rfl).cell 0) (O5.out.alloc _) hsz (by simp; omega) hlen ?_; intro v2 w2 o2 g2 _)
         go_roundw
         case rel =>
          refine ⟨c + 1, by go_num, by omega, ?_, Below.stepS ((hb.trans (hb2.mono hsz)).alloc (by omega) _) g2 (hH.belw ((Below.refl _ _).alloc (Nat.le_refl _) _) hsx).own (Nat.le_refl _) (by simp; omega)⟩
          show OwnS _ _ _ _
          rw [HST.out]
          exact o2
         case measure => simp only [intOf]; omega
    · rw [if_pos rfl] at hst
      have HST := Lib.hid hst
      clear hst
      go_wp2_with fail
      refine (unhide HCON).mono ?_
      rintro e w2 ⟨rfl, rfl⟩
      go_wp2
      go_roundw
      case rel => exact ⟨c + 1, by go_num, by omega, by show OwnS _ _ _ _; rw [HST.out]; exact ho.out, hb⟩
      case measure => simp only [intOf]; omega
  · have hke : c = n := by omega
    have HE := Lib.hid hke
    clear hke
    have o5 := ho.out
    rw [HE.out] at o5
    have hMb := nulTo_Mat ok fm piv n n
    obtain ⟨bs, hbs⟩ : ∃ bs, bs = nulTo F fm piv n n := ⟨_, rfl⟩
    rw [← hbs] at o5 hMb
    have hnb : nul F m n = form F bs n := by rw [HNB.out, hbs]
    have HNB2 := Lib.hid hnb
    obtain ⟨ab, cb, rfl, rb⟩ := o5.form
    have hbw := b1.trans (hb.mono z1)
    have zw := hbw.size
    have O5 := Lib.hid o5
    by_cases h0' : 0 < bs.length
    · have hfo := unhide HFO ab cb bs wo hbw rb hMb h0'
      have HFX := hide hfo
      clear hfo hbs hnb hMb o5 rb ho
      go_wp2_with fail
      refine (unhide HFX).mono ?_
      rintro e w2 ⟨v, rfl, o, b⟩
      go_wp2
      go_ret
      exact ⟨_, rfl, by rw [HNB2.out]; exact o.mono zw, hbw.trans (b.mono zw)⟩
    · have hbn : bs.length = 0 := by omega
      have hbn2 : form F bs n = bs := by rw [List.eq_nil_of_length_eq_zero hbn, form_nil]
      have HB2 := Lib.hid hbn2
      clear hbn2 hbs hnb hMb o5 rb ho
      go_wp2
      go_ret
      exact ⟨_, rfl, by rw [HNB2.out, HB2.out]; exact O5.out.mono (by omega), hbw⟩
end Go.Proofs.Ytgmgpcaahanmiaa
