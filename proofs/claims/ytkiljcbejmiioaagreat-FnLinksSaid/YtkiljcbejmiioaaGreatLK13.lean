/-
  Texts joined.
-/
import Derived.BigRegion
import Derived.OwnWalk
import Derived.Test.YtkiljcbejmiioaaGreatLK1
import Derived.Test.YtkiljcbejmiioaaGreatLK7
import Derived.Test.YtkiljcbejmiioaaGreatLK11
set_option linter.unusedVariables false
set_option linter.unusedSimpArgs false
set_option maxRecDepth 100000
set_option maxHeartbeats 40000000
namespace Go.Proofs.YtkiljcbejmiioaaGreat
open Go.RowKit
attribute [local go_sem ↓] Go.wp_at_zero Go.wp_at_succ
def boxNat (w : World) (v : Value) : Nat := match v with | .pointer (some p) => (match w.cell? p with | some (.int _ n) => n.toNat | _ => 0) | _ => 0
theorem RdS.drop {w : World} {b : Nat} {xss : List (List Int)} (h : RdS w (some ⟨b, 0, none⟩) xss) (t : Nat) : RdS w (some ⟨b, t, none⟩) (xss.drop t) := by
 refine ⟨by have := h.1; rw [List.length_drop]; omega, fun h0 => ?_⟩
 rw [List.length_drop] at h0
 obtain ⟨b', off, e, hb, hc⟩ := h.at_ (by omega)
 injection e with e
 injection e with e1 e2 _
 subst e1
 subst e2
 refine ⟨b, t, rfl, ?_⟩
 intro i hi
 rw [List.length_drop] at hi
 obtain ⟨ai, ci, h1, h2⟩ := hc (t + i) (by omega)
 rw [nthL_drop]
 rw [Nat.zero_add] at h1
 exact ⟨ai, ci, h1, h2⟩
theorem RS.step {w wr : World} {tvs : Array Value} {gb cb gq m k : Nat} {rows : List (List Int)} {u : Value} {piv : List Int} (h : RS w tvs gb cb gq m rows u piv k wr) :
    RS w tvs gb cb wr.heap.size m rows u piv (k + 1) (wr.alloc (.cells #[.int .i64 ((k : Int) + 1)] 3)) := by
 exact h.next ((Below.refl _ _).alloc (Nat.le_refl _) _) (Blk.new wr 3 #[.int .i64 ((k : Int) + 1)] rfl)
theorem boxNat_step (wr : World) (k : Nat) : boxNat (wr.alloc (.cells #[.int .i64 ((k : Int) + 1)] 3)) (.pointer (some ⟨wr.heap.size, 0, none⟩)) = k + 1 := by
 have h := (Blk.new wr 3 #[.int .i64 ((k : Int) + 1)] rfl).cell 0
 show (match (wr.alloc (.cells #[.int .i64 ((k : Int) + 1)] 3)).cell? ⟨wr.heap.size, 0, none⟩ with | some (.int _ n) => n.toNat | _ => 0) = k + 1
 rw [h]
 show ((k : Int) + 1).toNat = k + 1
 omega
theorem RS.drewN {w wr : World} {tvs : Array Value} {gb cb gq m k : Nat} {rows : List (List Int)} {u : Value} {piv : List Int} (h : RS w tvs gb cb gq m rows u piv k wr) (q : Nat) : RS w tvs gb cb gq m rows u piv k (wr.drewN q) := by
 obtain ⟨h1, h2, h3, h4, h5, h6⟩ := h
 have b := Qt.below (w := wr) ⟨q, rfl⟩ wr.heap.size
 exact ⟨h1.below b, h2.below b (Nat.le_refl _), h3, h4, h5, h6.trans (Qt.below ⟨q, rfl⟩ _)⟩
theorem reduce_any (F : FD) (tv : Value) (a : Option Addr) (c : Nat) (xss : List (List Int)) (n : Nat) (w : World) (hT : Tabs w F tv) (hG : F.Good) (hx : RdS w a xss) (h0 : 0 < xss.length) (hM : F.Mat n xss) :
    Calls Tryz.prog 28 #[tv, .slice a xss.length c] w fun e w' => ∃ v u d, e = .returned (.tuple #[v, u, .int .i64 d]) ∧ OwnS w' w.heap.size v (form F xss n) ∧ Own w' w.heap.size u (red F xss n).2 ∧ Below w.heap.size w w' := by
 obtain ⟨aA, cA, aS, cS, aM, cM, aI, cI, rfl, tA, tS, tM, tI⟩ := hT
 have ok := hG.ok
 obtain ⟨n2, n64⟩ := ok.n_bd
 have hxl := hx.len
 have hn : n ≤ 1073741824 := by
  obtain ⟨b, off, _, _, hc⟩ := hx.at_ h0
  obtain ⟨ai, ci, _, hr⟩ := hc 0 h0
  have := hr.len
  rwa [(Mat_nth hM h0).1] at this
 obtain ⟨W0, hW0⟩ : ∃ W0, W0 = w.alloc (.cells #[.int .i64 F.n, .slice aA F.n cA, .slice aS F.n cS, .slice aM F.n cM, .slice aI F.n cI] 60) := ⟨_, rfl⟩
 have kT : Blk W0 w.heap.size 60 #[.int .i64 F.n, .slice aA F.n cA, .slice aS F.n cS, .slice aM F.n cM, .slice aI F.n cI] := by rw [hW0]; exact Blk.new _ _ _ rfl
 have bT : Below w.heap.size w W0 := by rw [hW0]; exact (Below.refl _ _).alloc (Nat.le_refl _) _
 have sT : W0.heap.size = w.heap.size + 1 := by rw [hW0]; simp
 have HW := Lib.hid hW0
 clear hW0
 go_enter Tryz.func28, Tryz.ntmps28
 go_wp2_with fail
 rw [← HW.out]
 refine (copyLists_any a c xss W0 (hx.below bT)).mono ?_
 rintro e w1 ⟨v1, rfl, o1, b1⟩
 obtain ⟨gb, cb, rfl, hgB, hgl, hcb, hcb2⟩ := o1.at_ h0
 have hs1 := b1.size
 have tA' := tA
 have rs0 : RS w #[.int .i64 F.n, .slice aA F.n cA, .slice aS F.n cS, .slice aM F.n cM, .slice aI F.n cI] gb cb w1.heap.size xss.length xss (.slice none 0 0) [] 0 (w1.alloc (.cells #[.int .i64 0] 3)) := by
  have b2 : Below w1.heap.size w1 (w1.alloc (.cells #[.int .i64 0] 3)) := (Below.refl _ _).alloc (Nat.le_refl _) _
  have k1 : Blk w1 w.heap.size 60 #[.int .i64 F.n, .slice aA F.n cA, .slice aS F.n cS, .slice aM F.n cM, .slice aI F.n cI] := kT.below b1 (by omega)
  refine ⟨((o1.below b2 (Nat.le_refl _)).mono (by omega)).toQ (fun x hx k hk e => by cases e), ⟨by simp, Own.nil _ _ |>.2⟩, Blk.new _ _ _ rfl, k1.below b2 (by omega), by omega, ((bT.trans (b1.mono (by omega))).alloc (by omega) _)⟩
 have RS0 := hide rs0
 clear rs0 o1 tA' kT hgB hgl
 go_wp2_with fail
 go_loopw [8, 9, 10] (fun u dv cv wr => ∃ (k : Nat) (rows : List (List Int)) (piv : List Int) (d : Int) (gq : Nat), dv = .int .i64 d ∧ cv = .pointer (some ⟨gq, 0, none⟩) ∧ k ≤ n ∧ 0 ≤ d ∧ d < F.n ∧ Hid (red F xss k = (rows, piv)) ∧ Hid (rows.length = xss.length) ∧ piv.length < xss.length ∧ Hid (RS w #[.int .i64 F.n, .slice aA F.n cA, .slice aS F.n cS, .slice aM F.n cM, .slice aI F.n cI] gb cb gq xss.length rows u piv k wr)) (fun _ _ cv wr => n - boxNat wr cv)
 case atStart => exact ⟨0, xss, [], 1, w1.heap.size, rfl, rfl, Nat.zero_le _, by omega, by omega, rfl, rfl, h0, unhide RS0⟩
 case round =>
  obtain ⟨k, rows, piv, d, gq, rfl, rfl, hk, hd0, hd1, hred, hrl, hpt, hrs⟩ := hrel
  obtain ⟨ua, uc, rfl, _, _⟩ := hrs.out.2.1.form
  have hb := hrs.out.2.2.2.2.2
  have hsz := hb.size
  have hqc := hrs.out.2.2.1.cell 0
  have hMr : F.Mat n rows := by have h := red_Mat ok hM k; rw [hred.out] at h; exact h
  have h0r : 0 < rows.length := by rw [hrl.out]; exact h0
  obtain ⟨a0, c0, o0, h00, _, _⟩ := hrs.out.row h0r
  rw [(Mat_nth hMr h0r).1] at h00
  have HMr := hide hMr
  clear hMr o0
  have hbn : boxNat wr (.pointer (some ⟨gq, 0, none⟩)) = k := by simp [boxNat, hqc]
  have HBN := Lib.hid hbn
  clear hbn
  by_cases hkn : k < n
  · go_upto_region 5 with fail
    go_quiet (fail)
    go_upto_region 8 with fail
    have rq := hrs.out.drewN nq
    have SZ := Lib.hid (show (wr.drewN nq).heap.size = wr.heap.size from rfl)
    generalize wr.drewN nq = wq at rq SZ
    have hdr := (rq.1.own.rd).drop piv.length
    have hq2 := rq.2.2.1.cell 0
    have hidx := idx_reduce k gq n (some ⟨gb, piv.length, none⟩) (cb - piv.length) (rows.drop piv.length) wq hdr (fun xs hx => ((unhide HMr) xs (List.mem_of_mem_drop hx)).1) hkn hq2
    rw [List.length_drop, hrl.out] at hidx
    have hfp := firstOfL_piv rows k piv.length (by rw [hrl.out]; omega)
    obtain ⟨at_, hat⟩ : ∃ at_, at_ = firstOfL (notAt k) (rows.drop piv.length) := ⟨_, rfl⟩
    rw [← hat] at hidx hfp
    have HIDX := hide hidx
    have RQ := hide rq
    have HFP := hide hfp
    clear hat hdr hidx rq hfp hq2 hqc h00
    go_wp2_with fail
    refine (unhide HIDX).mono ?_
    rintro e w2 ⟨rfl, rfl⟩
    have rq := unhide RQ
    have hqc := rq.2.2.1.cell 0
    rcases unhide HFP with ⟨rfl, hp, _⟩ | ⟨i, rfl, hil, hp, hne⟩
    · have HP := Lib.hid hp
      clear hp
      go_wp2_with fail
      go_roundw
      case rel =>
       exact ⟨k + 1, rows, piv, 0, _, rfl, rfl, by omega, by omega, by omega, red_skip hred.out HP.out, hrl, hpt, hide rq.step⟩
      case measure =>
       rw [HBN.out]
       show n - boxNat _ (.pointer (some ⟨wq.heap.size, 0, none⟩)) < _
       rw [boxNat_step]
       omega
    · have HP := Lib.hid hp
      have HNE := Lib.hid hne
      clear hp hne
      have htr : piv.length < rows.length := by rw [hrl.out]; exact hpt
      obtain ⟨ax, cx, hcx⟩ := rq.1.cellOf htr
      obtain ⟨ay, cy, hcy⟩ := rq.1.cellOf hil
      have hMr := unhide HMr
      rw [(Mat_nth hMr htr).1] at hcx
      rw [(Mat_nth hMr hil).1] at hcy
      have hfa := rq.1.own.frozen piv.length
      have hfb : (wq.setCell ⟨gb, piv.length, none⟩ (.slice ay n cy)).frozen? ⟨gb, piv.length + i, none⟩ = false := by simpa using rq.1.own.frozen (piv.length + i)
      have bx := rq.2.2.2.1
      have hbq := rq.2.2.2.2.2
      clear hMr
      by_cases hi0 : i = 0
      · subst hi0
        clear hcx hcy hfa hfb ay ax
        have rsw : RS w #[.int .i64 F.n, .slice aA F.n cA, .slice aS F.n cS, .slice aM F.n cM, .slice aI F.n cI] gb cb gq xss.length (swapped rows piv.length (piv.length + 0)) (.slice ua piv.length uc) piv k wq := by
         rw [Nat.add_zero, swapped_self htr]; exact rq
        have RSW := hide rsw
        have hDb : 0 ≤ d ∧ d < F.n := ⟨hd0, hd1⟩
        clear rsw rq RQ hd0 hd1
        go_upto_region 14 with fail
        obtain ⟨p, hP⟩ : ∃ p, p = piv.length + 0 := ⟨_, rfl⟩
        rw [← hP] at RSW HP HNE hil
        -- COMMON d
        have rs3 := unhide RSW
        have hMs := swapped_Mat (t := piv.length) (unhide HMr) htr hil
        have htop := swapped_top htr hil
        have hsl := swapped_len rows piv.length p
        have hts : piv.length < (swapped rows piv.length p).length := by rw [hsl]; exact htr
        obtain ⟨a1, c1, o1, hc1, st1, dj1⟩ := rs3.row hts
        have hm1 := Mat_nth hMs hts
        rw [htop] at o1 hc1 st1 hm1
        obtain ⟨row, hRow⟩ : ∃ row, row = nthL rows p := ⟨_, rfl⟩
        rw [← hRow] at o1 hc1 st1 hm1 htop
        obtain ⟨g1, c1', e1, hgB1, hg1, _, _⟩ := o1.at_len hm1.1 (by omega)
        injection e1 with e1 _ _
        subst e1
        have hcl := o1.cell (j := k) (by rw [hm1.1]; exact hkn)
        have hld := hm1.2 _ (nth_mem (k := k) (by rw [hm1.1]; exact hkn))
        obtain ⟨x, hX⟩ : ∃ x, x = nth row k := ⟨_, rfl⟩
        have hxn : x ≠ 0 := by rw [hX, hRow]; exact HNE.out
        rw [← hX] at hcl hld
        rw [hm1.1] at hc1 o1 st1
        have hqc3 := rs3.2.2.1.cell 0
        have ST1 := hide st1
        have DJ1 := hide dj1
        have O1 := hide o1
        have HX := Lib.hid hX
        have HROW := Lib.hid hRow
        have HTOP := Lib.hid htop
        have HM1 := hide hm1
        clear st1 dj1 o1 hX hRow htop hm1 hMs
        go_quiet (fail)
        have r4 := rs3.drewN nq
        have o4 := (unhide O1).drewN nq
        have c4 : (wq.drewN nq).cell? ⟨gb, piv.length, none⟩ = some (.slice (some ⟨g1, 0, none⟩) n c1) := hc1
        have st4 := fun w' ys h1 h2 h3 => (unhide ST1) w' ys h1 h2 h3
        obtain ⟨W4, hW4⟩ : ∃ W4, W4 = wq.drewN nq := ⟨_, rfl⟩
        rw [← hW4] at r4 o4 c4 ⊢
        have g4 : wq.grownBy W4 (some g1) := by rw [hW4]; exact ⟨rfl, rfl, rfl, Nat.le_refl _, fun _ _ _ => rfl⟩
        clear hW4 hc1 st4
        have f3 := r4.2.2.2.1.cell 3
        obtain ⟨dn, rfl⟩ := Int.eq_ofNat_of_zero_le hDb.1
        obtain ⟨xn, hxn'⟩ := Int.eq_ofNat_of_zero_le hld.1
        subst hxn'
        obtain ⟨bM, oM, bm, om, cm, hbM, m1, m2⟩ := tab_at (tM.below r4.2.2.2.2.2) (i := dn) (j := xn) (by omega) (by omega)
        rw [hbM] at f3
        have hEb := mul_bd ok dn xn
        obtain ⟨E, hE⟩ : ∃ E, E = F.mul dn xn := ⟨_, rfl⟩
        rw [← hE] at m2 hEb
        have hdn2 : dn < F.n := by omega
        have hxn2 : xn < F.n := by omega
        clear hE hbM
        go_upto_region 17 with fail
        have hgbg : gb ≠ g1 := fun e => by
         obtain ⟨_, vs, hr, _⟩ := r4.1
         exact Own.notSliceBlock hr o4 g1 rfl (by show some gb = some g1; rw [e])
        have hgBg : g1 ≠ w.heap.size := fun e => o4.notBlk r4.2.2.2.1 (by decide) (by show some g1 = some w.heap.size; rw [e])
        have hg1l := (o4.lt g1 rfl).2
        have R4 := hide r4
        have O4 := hide o4
        have hbx4 := r4.2.2.2.1
        have hbw4 := r4.2.2.2.2.2
        have TI := tI
        clear r4 o4 f3 m1 m2
        go_loopw [89] (fun kv wr => ∃ j : Nat, kv = .int .i64 j ∧ j ≤ n ∧ Hid (Own wr w.heap.size (.slice (some ⟨g1, 0, none⟩) n c1) (scaleTo F (F.inv xn) row j)) ∧ Hid (W4.grownBy wr (some g1))) (fun kv _ => n - (intOf kv).toNat)
        case atStart => exact ⟨0, rfl, Nat.zero_le _, O4, hide ⟨rfl, rfl, rfl, Nat.le_refl _, fun _ _ _ => rfl⟩⟩
        case round =>
         obtain ⟨j, rfl, hj, hoj, hgj⟩ := hrel
         by_cases hjn : j < n
         · have hcb4 : wr.cell? ⟨gb, piv.length, none⟩ = some (.slice (some ⟨g1, 0, none⟩) n c1) := by
             rw [← c4]; exact World.cell?_of_block (hgj.out.block gb (World.block_lt_of_cell? _ _ c4) (by intro e; injection e with e; exact hgbg e))
           have hbxj := hbx4.grown hgj.out (by intro e; injection e with e; exact hgBg e)
           have hbj : Below w.heap.size w wr := hbw4.grown hgj.out hbw4.size (fun q hq => by injection hq; omega)
           have hm1 := unhide HM1
           have hjr : j < row.length := by rw [hm1.1]; exact hjn
           have hsl1 := scaleTo_len F (F.inv xn) row j
           have hcj := hoj.out.cell (j := j) (by rw [hsl1]; exact hjr)
           rw [scaleTo_nth F _ row j (by omega), if_neg (by omega)] at hcj
           have hfj := hoj.out.frozen j
           have hyr := hm1.2 _ (nth_mem hjr)
           obtain ⟨y, hY⟩ : ∃ y, y = nth row j := ⟨_, rfl⟩
           have hst : scaleTo F (F.inv xn) row (j + 1) = (scaleTo F (F.inv xn) row j).set j (F.mul (F.inv xn) y) := by rw [scaleTo, hY]
           rw [← hY] at hcj hyr
           have hIb := inv_el hG (a := xn) (by omega) (by omega)
           obtain ⟨bI, oI, hbI, _, hcI⟩ := (TI.below hbj).at_ (by rw [invTo_len]; omega)
           have i1 := hcI xn (by rw [invTo_len]; exact hxn2)
           rw [invTo_nth hG hxn2] at i1
           obtain ⟨iv, hiv⟩ := Int.eq_ofNat_of_zero_le hIb.1
           obtain ⟨yn, hyn⟩ := Int.eq_ofNat_of_zero_le hyr.1
           rw [hiv] at i1 hIb
           rw [hyn] at hcj hyr
           obtain ⟨bM2, oM2, bm2, om2, cm2, hbM2, m3, m4⟩ := tab_at (tM.below hbj) (i := iv) (j := yn) (by omega) (by omega)
           have f3 := hbxj.cell 3
           have f4 := hbxj.cell 4
           rw [hbM2] at f3
           rw [hbI] at f4
           obtain ⟨R, hR⟩ : ∃ R, R = F.mul iv yn := ⟨_, rfl⟩
           have hR2 : F.mul (F.inv xn) y = R := by rw [hiv, hyn, hR]
           rw [← hR] at m4
           rw [hR2] at hst
           have hivn : iv < F.n := by omega
           have hynn : yn < F.n := by omega
           have HST := Lib.hid hst
           clear hst hR hR2 hcI hm1 hY hyn hiv hyr hIb hbM2 hbI hsl1
           go_wp2_with fail
           go_region
           go_wp2
           go_roundw
           case rel =>
            have hs := hoj.out.set j R
            refine ⟨j + 1, by go_num, by omega, ?_, hide (grown_drew (grown_trans_row hgj.out hs.2))⟩
            show Own _ _ _ _
            rw [HST.out]
            exact hs.1.drewN 1
           case measure => simp only [intOf]; omega
         · have hje : j = n := by omega
           have HJ := Lib.hid hje
           clear hje
           go_wp2_with fail
           have hm1 := unhide HM1
           have rs5 : RS w #[.int .i64 F.n, .slice aA F.n cA, .slice aS F.n cS, .slice aM F.n cM, .slice aI F.n cI] gb cb gq xss.length (topped F k piv.length rows p) (.slice ua piv.length uc) piv k wr := by
            have h := (unhide ST1) wr (scaleTo F (F.inv xn) row n) (by have h := hoj.out; rwa [HJ.out] at h) (by rw [scaleTo_len]; exact hm1.1) (grown_trans_row g4 hgj.out)
            rw [← hm1.1, scaleTo_all, HX.out, HROW.out, swapped_topped htr hil] at h
            exact h
           have hMt := topped_Mat (c := k) (t := piv.length) ok (unhide HMr) hil htr
           have hMl := topped_len F k piv.length rows p
           have hTt := topped_top F k (i := p) htr
           have hgo := red_go hred.out htr HP.out hil
           obtain ⟨tp, hTP⟩ : ∃ tp, tp = topped F k piv.length rows p := ⟨_, rfl⟩
           rw [← hTP] at rs5 hMt hMl hTt hgo
           have RS5 := hide rs5
           have HMT := hide hMt
           have HML := Lib.hid hMl
           have HGO := Lib.hid hgo
           clear rs5 hMt hMl hTt hgo hTP hm1
           go_loopw [115] (fun jv wr => ∃ j : Nat, jv = .int .i64 j ∧ j ≤ xss.length ∧ Hid (RS w #[.int .i64 F.n, .slice aA F.n cA, .slice aS F.n cS, .slice aM F.n cM, .slice aI F.n cI] gb cb gq xss.length (elimTo F k piv.length tp j) (.slice ua piv.length uc) piv k wr)) (fun jv _ => xss.length - (intOf jv).toNat)
           case atStart => exact ⟨0, rfl, Nat.zero_le _, RS5⟩
           case round =>
            obtain ⟨j, rfl, hj, hrj⟩ := hrel
            by_cases hjl : j < xss.length
            · have htl3 : j < tp.length := by rw [HML.out, hrl.out]; exact hjl
              have hel3 := elimTo_len F k piv.length tp j
              have hnj : nthL (elimTo F k piv.length tp j) j = nthL tp j := by rw [elimTo_nth j (by omega) j, if_neg (by omega)]
              obtain ⟨ro, hRO⟩ : ∃ ro, ro = elimTo F k piv.length tp j := ⟨_, rfl⟩
              have rsj := hrj.out
              rw [← hRO] at rsj hnj hel3
              obtain ⟨aj, cj, oj, hcj, stj, djj⟩ := rsj.row (i := j) (by omega)
              have hmj := Mat_nth (unhide HMT) htl3
              rw [hnj] at oj hcj stj djj
              obtain ⟨gj, cj', ej, hgjB, hgj2, _, _⟩ := oj.at_len hmj.1 (by omega)
              injection ej with ej _ ec
              subst ej
              subst ec
              rw [hmj.1] at oj hcj stj djj
              have hcl3 := oj.cell (j := k) (by rw [hmj.1]; exact hkn)
              have hld3 := hmj.2 _ (nth_mem (k := k) (by rw [hmj.1]; exact hkn))
              have hqc5 := rsj.2.2.1.cell 0
              have hbx5 := rsj.2.2.2.1
              have hbw5 := rsj.2.2.2.2.2
              have OJ := hide oj
              have STJ := hide stj
              have DJJ := hide djj
              have HMJ := hide hmj
              have RSJ := hide rsj
              have HROO := Lib.hid hRO
              have HNJ := Lib.hid hnj
              have HEL3 := Lib.hid hel3
              clear oj stj djj hmj rsj hRO hnj hel3
              by_cases hjt : j = piv.length
              · have hbn : ((j : Int) != (piv.length : Int)) = false := by rw [bne_eq_false_iff_eq]; omega
                have HJT := Lib.hid hjt
                clear hjt
                go_wp2_with fail
                go_roundw
                case rel =>
                 refine ⟨j + 1, by go_num, by omega, ?_⟩
                 rw [elimTo, if_pos HJT.out, ← HROO.out]
                 exact RSJ
                case measure => simp only [intOf]; omega
              · have hbn : ((j : Int) != (piv.length : Int)) = true := by rw [bne_iff_ne]; omega
                obtain ⟨z, hZ⟩ : ∃ z, z = nth (nthL tp j) k := ⟨_, rfl⟩
                rw [← hZ] at hcl3 hld3
                obtain ⟨zn, hzn⟩ := Int.eq_ofNat_of_zero_le hld3.1
                rw [hzn] at hcl3 hld3 hZ
                have HZ := Lib.hid hZ
                clear hZ hzn
                by_cases hz : zn = 0
                · have hbz : ((zn : Int) != 0) = false := by rw [bne_eq_false_iff_eq]; omega
                  have hz0 : nth (nthL tp j) k = 0 := by rw [← HZ.out]; omega
                  have HZ0 := Lib.hid hz0
                  have HZN := Lib.hid hz
                  clear hz0 hz
                  go_wp2_with fail
                  go_roundw
                  case rel =>
                   refine ⟨j + 1, by go_num, by omega, ?_⟩
                   rw [elimTo_zero ok (unhide HMT) htl3 HZ0.out, ← HROO.out]
                   exact RSJ
                  case measure => simp only [intOf]; omega
                · have hbz : ((zn : Int) != 0) = true := by rw [bne_iff_ne]; omega
                  have htt : piv.length < tp.length := by rw [HML.out, hrl.out]; exact hpt
                  have hto : piv.length < ro.length := by rw [HEL3.out]; exact htt
                  obtain ⟨at_, ct, ot, hct, _, _⟩ := (unhide RSJ).row (i := piv.length) hto
                  have hnt : nthL ro piv.length = nthL tp piv.length := by rw [HROO.out, elimTo_nth j (by omega) piv.length, if_neg (by omega)]
                  have hmt := Mat_nth (unhide HMT) (i := piv.length) htt
                  have hdj := (unhide DJJ) piv.length at_ ct hto (by omega) hct
                  rw [hnt] at ot hct hdj
                  obtain ⟨gt, ct', et, hgtB, hgt2, _, _⟩ := ot.at_len hmt.1 (by omega)
                  injection et with et _ ec
                  subst et
                  subst ec
                  rw [hmt.1] at ot hct hdj
                  have hgg : gt ≠ gj := fun e => hdj gt rfl (by show some gj = some gt; rw [e])
                  obtain ⟨bS, oS, bs, os, cs, rfl, s1, s2⟩ := tab_at (tS.below hbw5) (i := 0) (j := zn) (by omega) (by omega)
                  have hDb3 := sub_bd ok 0 zn
                  rw [show ((0 : Nat) : Int) = 0 from rfl] at s2
                  have hat : Calls Tryz.prog 73 #[.agg #[.int .i64 F.n, .slice aA F.n cA, .slice (some ⟨bS, oS, none⟩) F.n cS, .slice aM F.n cM, .slice aI F.n cI], .slice (some ⟨gj, 0, none⟩) n cj, .slice (some ⟨gt, 0, none⟩) n ct, .int .i64 (F.sub 0 zn)] wr.drew fun e w' => e = .returned (.tuple #[]) ∧ Own w' w.heap.size (.slice (some ⟨gj, 0, none⟩) n cj) (addTo F (nthL tp j) (nthL tp piv.length) (F.sub 0 zn) (nthL tp j).length) ∧ wr.drew.grownBy w' (some gj) := by
                   have hmj := unhide HMJ
                   have h := addTimes_any F _ w wr.drew w.heap.size gj cj (some ⟨gt, 0, none⟩) ct (nthL tp j) (nthL tp piv.length) (F.sub 0 zn) ok ⟨aA, cA, _, cS, aM, cM, aI, cI, rfl, tA, tS, tM, tI⟩ hbw5.drew (Nat.le_refl _) (by rw [hmj.1]; exact (unhide OJ).drewN 1) (ot.rd.drewN 1) (fun p hp => by injection hp with hp; rw [← hp]; exact hgg) (by rw [hmj.1, hmt.1]) hDb3.1 hDb3.2 hmj.2 hmt.2
                   rw [hmj.1, hmt.1] at h
                   rw [hmj.1]
                   exact h
                  obtain ⟨D3, hD3⟩ : ∃ D3, D3 = F.sub 0 zn := ⟨_, rfl⟩
                  have HST3 := Lib.hid (elimTo_step (c := k) (t := piv.length) (rows := tp) ok hjt)
                  rw [← HZ.out, ← hD3] at HST3
                  rw [← hD3] at s2 hat
                  have f0 := hbx5.cell 0
                  have f1 := hbx5.cell 1
                  have f2 := hbx5.cell 2
                  have f3 := hbx5.cell 3
                  have f4 := hbx5.cell 4
                  have HAT := hide hat
                  have hznn : zn < F.n := by omega
                  have hFn0 : 0 < F.n := by omega
                  clear hat hD3 hdj hmt hnt ot hbx5 hz hjt hDb3 tA tM tI tS
                  rw [Nat.add_zero] at s1
                  go_wp2_with fail
                  go_still_tail 16, (by kernel_rfl)
                  change wpList _ _ _ _ _ wr.drew
                  go_wp2_with fail
                  refine (unhide HAT).mono ?_
                  rintro e w5 ⟨rfl, o5, g5⟩
                  go_wp2_with fail
                  go_roundw
                  case rel =>
                   refine ⟨j + 1, by go_num, by omega, ?_⟩
                   rw [HST3.out, ← HROO.out]
                   exact hide ((unhide STJ) w5 _ o5 (by rw [addTo_len]; exact (unhide HMJ).1) (grown_trans_row (⟨rfl, rfl, rfl, Nat.le_refl _, fun _ _ _ => rfl⟩ : wr.grownBy wr.drew (some gj)) g5))
                  case measure => simp only [intOf]; omega
            · have hje : j = xss.length := by omega
              have HJ3 := Lib.hid hje
              clear hje
              have hq3 := hrj.out.2.2.1.cell 0
              have hb3 := hrj.out.2.2.2.2.2.size
              have hpx : piv.length + [(k : Int)].length ≤ 1073741824 := by simp; omega
              have op3 := hrj.out.2.1
              have HGO2 : Hid (red F xss (k + 1) = (elimTo F k piv.length tp xss.length, piv ++ [(k : Int)])) := Lib.hid (by rw [← hrl.out]; exact HGO.out)
              have hrj2 := unhide hrj
              rw [HJ3.out] at hrj2
              have RJ2 := hide hrj2
              have HEL : Hid ((elimTo F k piv.length tp xss.length).length = xss.length) := Lib.hid (by rw [elimTo_len, HML.out, hrl.out])
              clear hrj2
              by_cases hlast : piv.length + 1 = xss.length
              · have hbe : ((piv.length : Int) + 1 == (xss.length : Int)) = true := by rw [beq_iff_eq]; omega
                have hbe2 : (piv.length + 1 == xss.length) = true := by rw [beq_iff_eq]; omega
                have HLA := Lib.hid hlast
                clear hlast
                go_wp2_with (at_builtin; refine wpList_append_ints rfl (.tmp 148) (.tmp 150) rfl w.heap.size (.slice ua piv.length uc) piv [(k : Int)] rfl (op3.alloc _) _ 1 1 rfl rfl (Rd.one wr (k : Int) _) hpx (by simp; omega) ?_; intro v1 w3 hown1 hg1 hc1; obtain ⟨ua2, uc2, e2, _, _⟩ := hown1.form; rw [show (piv ++ [(k : Int)]).length = piv.length + 1 by simp] at e2; subst e2; have R6 := hide ((unhide RJ2).push _ hown1 hg1 hc1); clear hown1 hg1 hc1)
                go_ret3
                have rs6 := unhide R6
                have hfull := red_full (F := F) (rows := xss) (c := k + 1) (d := n) (by rw [HGO2.out]; simp; have := HLA.out; omega) (by omega)
                refine ⟨_, _, _, rfl, ?_, ?_, rs6.2.2.2.2.2⟩
                · rw [form, hfull, HGO2.out]
                  show OwnS _ _ _ (List.take (piv ++ [(k : Int)]).length _)
                  rw [show (piv ++ [(k : Int)]).length = piv.length + 1 by simp]
                  exact rs6.1.own.take (by have := HLA.out; omega)
                · rw [hfull, HGO2.out]; exact rs6.2.1
              · have hbe : ((piv.length : Int) + 1 == (xss.length : Int)) = false := by rw [beq_eq_false_iff_ne]; omega
                have hbe2 : (piv.length + 1 == xss.length) = false := by rw [beq_eq_false_iff_ne]; omega
                have hll : (piv ++ [(k : Int)]).length < xss.length := by simp; omega
                have HLL := hide hll
                clear hll
                go_wp2_with (at_builtin; refine wpList_append_ints rfl (.tmp 148) (.tmp 150) rfl w.heap.size (.slice ua piv.length uc) piv [(k : Int)] rfl (op3.alloc _) _ 1 1 rfl rfl (Rd.one wr (k : Int) _) hpx (by simp; omega) ?_; intro v1 w3 hown1 hg1 hc1; obtain ⟨ua2, uc2, e2, _, _⟩ := hown1.form; rw [show (piv ++ [(k : Int)]).length = piv.length + 1 by simp] at e2; subst e2; have R6 := hide ((unhide RJ2).push _ hown1 hg1 hc1); have hq6 : w3.cell? ⟨gq, 0, none⟩ = some (.int .i64 k) := (unhide R6).2.2.1.cell 0; clear hown1 hg1 hc1)
                go_roundw
                case rel =>
                 refine ⟨k + 1, elimTo F k piv.length tp xss.length, piv ++ [(k : Int)], _, _, rfl, rfl, by omega, hEb.1, hEb.2, HGO2, HEL, unhide HLL, ?_⟩
                 have h6 := (unhide R6).step
                 exact hide h6
                case measure =>
                 rw [HBN.out]
                 show n - boxNat _ (.pointer (some ⟨_, 0, none⟩)) < _
                 rw [boxNat_step]
                 omega
        -- END
      · have hti : piv.length ≠ piv.length + i := by omega
        have hip : decide (0 < i) = true := by rw [decide_eq_true_iff]; omega
        have rsw := (rq.swap htr hil hti hcx hcy).drew
        have RSW := hide rsw
        obtain ⟨d', rfl⟩ := Int.eq_ofNat_of_zero_le hd0
        have hix : piv.length + i < xss.length := by rw [← hrl.out]; exact hil
        have hwr : IntKind.i64.wrap ((piv.length : Int) + (i : Int)) = ((piv.length + i : Nat) : Int) := by rw [IntWalk.i64_in _ (by omega)]; omega
        have hfc : (wq.setCell ⟨gb, piv.length, none⟩ (.slice ay n cy)).cell? ⟨gb, piv.length + i, none⟩ = some (.slice ay n cy) := by
         rw [← hcy]; exact World.cell?_setCell_other _ _ _ _ (by intro e; injection e with _ e _; omega)
        go_upto_region 12 with fail
        go_region
        obtain ⟨W3, hW3⟩ : ∃ W3, W3 = ((wq.setCell ⟨gb, piv.length, none⟩ (.slice ay n cy)).setCell ⟨gb, piv.length + i, none⟩ (.slice ax n cx)).drew := ⟨_, rfl⟩
        rw [← hW3] at RSW ⊢
        clear hW3 hfc hwr hfa hfb hcx hcy
        have r3 := unhide RSW
        have f2 := r3.2.2.2.1.cell 2
        obtain ⟨bS, oS, bs, os, cs, hbS, s1, s2⟩ := tab_at (tS.below r3.2.2.2.2.2) (i := 0) (j := d') (by omega) (by omega)
        rw [hbS] at f2
        have hDb := sub_bd ok 0 d'
        obtain ⟨D, hD⟩ : ∃ D, D = F.sub 0 d' := ⟨_, rfl⟩
        rw [show ((0 : Nat) : Int) = 0 from rfl, ← hD] at s2
        rw [← hD] at hDb
        rw [Nat.add_zero] at s1
        have hdn : d' < F.n := by omega
        clear r3 hD hbS
        go_upto_region 14 with fail
        obtain ⟨p, hP⟩ : ∃ p, p = piv.length + i := ⟨_, rfl⟩
        rw [← hP] at RSW HP HNE hil
        -- COMMON D
        have rs3 := unhide RSW
        have hMs := swapped_Mat (t := piv.length) (unhide HMr) htr hil
        have htop := swapped_top htr hil
        have hsl := swapped_len rows piv.length p
        have hts : piv.length < (swapped rows piv.length p).length := by rw [hsl]; exact htr
        obtain ⟨a1, c1, o1, hc1, st1, dj1⟩ := rs3.row hts
        have hm1 := Mat_nth hMs hts
        rw [htop] at o1 hc1 st1 hm1
        obtain ⟨row, hRow⟩ : ∃ row, row = nthL rows p := ⟨_, rfl⟩
        rw [← hRow] at o1 hc1 st1 hm1 htop
        obtain ⟨g1, c1', e1, hgB1, hg1, _, _⟩ := o1.at_len hm1.1 (by omega)
        injection e1 with e1 _ _
        subst e1
        have hcl := o1.cell (j := k) (by rw [hm1.1]; exact hkn)
        have hld := hm1.2 _ (nth_mem (k := k) (by rw [hm1.1]; exact hkn))
        obtain ⟨x, hX⟩ : ∃ x, x = nth row k := ⟨_, rfl⟩
        have hxn : x ≠ 0 := by rw [hX, hRow]; exact HNE.out
        rw [← hX] at hcl hld
        rw [hm1.1] at hc1 o1 st1
        have hqc3 := rs3.2.2.1.cell 0
        have ST1 := hide st1
        have DJ1 := hide dj1
        have O1 := hide o1
        have HX := Lib.hid hX
        have HROW := Lib.hid hRow
        have HTOP := Lib.hid htop
        have HM1 := hide hm1
        clear st1 dj1 o1 hX hRow htop hm1 hMs
        go_quiet (fail)
        have r4 := rs3.drewN nq
        have o4 := (unhide O1).drewN nq
        have c4 : (W3.drewN nq).cell? ⟨gb, piv.length, none⟩ = some (.slice (some ⟨g1, 0, none⟩) n c1) := hc1
        have st4 := fun w' ys h1 h2 h3 => (unhide ST1) w' ys h1 h2 h3
        obtain ⟨W4, hW4⟩ : ∃ W4, W4 = W3.drewN nq := ⟨_, rfl⟩
        rw [← hW4] at r4 o4 c4 ⊢
        have g4 : W3.grownBy W4 (some g1) := by rw [hW4]; exact ⟨rfl, rfl, rfl, Nat.le_refl _, fun _ _ _ => rfl⟩
        clear hW4 hc1 st4
        have f3 := r4.2.2.2.1.cell 3
        obtain ⟨dn, rfl⟩ := Int.eq_ofNat_of_zero_le hDb.1
        obtain ⟨xn, hxn'⟩ := Int.eq_ofNat_of_zero_le hld.1
        subst hxn'
        obtain ⟨bM, oM, bm, om, cm, hbM, m1, m2⟩ := tab_at (tM.below r4.2.2.2.2.2) (i := dn) (j := xn) (by omega) (by omega)
        rw [hbM] at f3
        have hEb := mul_bd ok dn xn
        obtain ⟨E, hE⟩ : ∃ E, E = F.mul dn xn := ⟨_, rfl⟩
        rw [← hE] at m2 hEb
        have hdn2 : dn < F.n := by omega
        have hxn2 : xn < F.n := by omega
        clear hE hbM
        go_upto_region 17 with fail
        have hgbg : gb ≠ g1 := fun e => by
         obtain ⟨_, vs, hr, _⟩ := r4.1
         exact Own.notSliceBlock hr o4 g1 rfl (by show some gb = some g1; rw [e])
        have hgBg : g1 ≠ w.heap.size := fun e => o4.notBlk r4.2.2.2.1 (by decide) (by show some g1 = some w.heap.size; rw [e])
        have hg1l := (o4.lt g1 rfl).2
        have R4 := hide r4
        have O4 := hide o4
        have hbx4 := r4.2.2.2.1
        have hbw4 := r4.2.2.2.2.2
        have TI := tI
        clear r4 o4 f3 m1 m2
        go_loopw [89] (fun kv wr => ∃ j : Nat, kv = .int .i64 j ∧ j ≤ n ∧ Hid (Own wr w.heap.size (.slice (some ⟨g1, 0, none⟩) n c1) (scaleTo F (F.inv xn) row j)) ∧ Hid (W4.grownBy wr (some g1))) (fun kv _ => n - (intOf kv).toNat)
        case atStart => exact ⟨0, rfl, Nat.zero_le _, O4, hide ⟨rfl, rfl, rfl, Nat.le_refl _, fun _ _ _ => rfl⟩⟩
        case round =>
         obtain ⟨j, rfl, hj, hoj, hgj⟩ := hrel
         by_cases hjn : j < n
         · have hcb4 : wr.cell? ⟨gb, piv.length, none⟩ = some (.slice (some ⟨g1, 0, none⟩) n c1) := by
             rw [← c4]; exact World.cell?_of_block (hgj.out.block gb (World.block_lt_of_cell? _ _ c4) (by intro e; injection e with e; exact hgbg e))
           have hbxj := hbx4.grown hgj.out (by intro e; injection e with e; exact hgBg e)
           have hbj : Below w.heap.size w wr := hbw4.grown hgj.out hbw4.size (fun q hq => by injection hq; omega)
           have hm1 := unhide HM1
           have hjr : j < row.length := by rw [hm1.1]; exact hjn
           have hsl1 := scaleTo_len F (F.inv xn) row j
           have hcj := hoj.out.cell (j := j) (by rw [hsl1]; exact hjr)
           rw [scaleTo_nth F _ row j (by omega), if_neg (by omega)] at hcj
           have hfj := hoj.out.frozen j
           have hyr := hm1.2 _ (nth_mem hjr)
           obtain ⟨y, hY⟩ : ∃ y, y = nth row j := ⟨_, rfl⟩
           have hst : scaleTo F (F.inv xn) row (j + 1) = (scaleTo F (F.inv xn) row j).set j (F.mul (F.inv xn) y) := by rw [scaleTo, hY]
           rw [← hY] at hcj hyr
           have hIb := inv_el hG (a := xn) (by omega) (by omega)
           obtain ⟨bI, oI, hbI, _, hcI⟩ := (TI.below hbj).at_ (by rw [invTo_len]; omega)
           have i1 := hcI xn (by rw [invTo_len]; exact hxn2)
           rw [invTo_nth hG hxn2] at i1
           obtain ⟨iv, hiv⟩ := Int.eq_ofNat_of_zero_le hIb.1
           obtain ⟨yn, hyn⟩ := Int.eq_ofNat_of_zero_le hyr.1
           rw [hiv] at i1 hIb
           rw [hyn] at hcj hyr
           obtain ⟨bM2, oM2, bm2, om2, cm2, hbM2, m3, m4⟩ := tab_at (tM.below hbj) (i := iv) (j := yn) (by omega) (by omega)
           have f3 := hbxj.cell 3
           have f4 := hbxj.cell 4
           rw [hbM2] at f3
           rw [hbI] at f4
           obtain ⟨R, hR⟩ : ∃ R, R = F.mul iv yn := ⟨_, rfl⟩
           have hR2 : F.mul (F.inv xn) y = R := by rw [hiv, hyn, hR]
           rw [← hR] at m4
           rw [hR2] at hst
           have hivn : iv < F.n := by omega
           have hynn : yn < F.n := by omega
           have HST := Lib.hid hst
           clear hst hR hR2 hcI hm1 hY hyn hiv hyr hIb hbM2 hbI hsl1
           go_wp2_with fail
           go_region
           go_wp2
           go_roundw
           case rel =>
            have hs := hoj.out.set j R
            refine ⟨j + 1, by go_num, by omega, ?_, hide (grown_drew (grown_trans_row hgj.out hs.2))⟩
            show Own _ _ _ _
            rw [HST.out]
            exact hs.1.drewN 1
           case measure => simp only [intOf]; omega
         · have hje : j = n := by omega
           have HJ := Lib.hid hje
           clear hje
           go_wp2_with fail
           have hm1 := unhide HM1
           have rs5 : RS w #[.int .i64 F.n, .slice aA F.n cA, .slice aS F.n cS, .slice aM F.n cM, .slice aI F.n cI] gb cb gq xss.length (topped F k piv.length rows p) (.slice ua piv.length uc) piv k wr := by
            have h := (unhide ST1) wr (scaleTo F (F.inv xn) row n) (by have h := hoj.out; rwa [HJ.out] at h) (by rw [scaleTo_len]; exact hm1.1) (grown_trans_row g4 hgj.out)
            rw [← hm1.1, scaleTo_all, HX.out, HROW.out, swapped_topped htr hil] at h
            exact h
           have hMt := topped_Mat (c := k) (t := piv.length) ok (unhide HMr) hil htr
           have hMl := topped_len F k piv.length rows p
           have hTt := topped_top F k (i := p) htr
           have hgo := red_go hred.out htr HP.out hil
           obtain ⟨tp, hTP⟩ : ∃ tp, tp = topped F k piv.length rows p := ⟨_, rfl⟩
           rw [← hTP] at rs5 hMt hMl hTt hgo
           have RS5 := hide rs5
           have HMT := hide hMt
           have HML := Lib.hid hMl
           have HGO := Lib.hid hgo
           clear rs5 hMt hMl hTt hgo hTP hm1
           go_loopw [115] (fun jv wr => ∃ j : Nat, jv = .int .i64 j ∧ j ≤ xss.length ∧ Hid (RS w #[.int .i64 F.n, .slice aA F.n cA, .slice aS F.n cS, .slice aM F.n cM, .slice aI F.n cI] gb cb gq xss.length (elimTo F k piv.length tp j) (.slice ua piv.length uc) piv k wr)) (fun jv _ => xss.length - (intOf jv).toNat)
           case atStart => exact ⟨0, rfl, Nat.zero_le _, RS5⟩
           case round =>
            obtain ⟨j, rfl, hj, hrj⟩ := hrel
            by_cases hjl : j < xss.length
            · have htl3 : j < tp.length := by rw [HML.out, hrl.out]; exact hjl
              have hel3 := elimTo_len F k piv.length tp j
              have hnj : nthL (elimTo F k piv.length tp j) j = nthL tp j := by rw [elimTo_nth j (by omega) j, if_neg (by omega)]
              obtain ⟨ro, hRO⟩ : ∃ ro, ro = elimTo F k piv.length tp j := ⟨_, rfl⟩
              have rsj := hrj.out
              rw [← hRO] at rsj hnj hel3
              obtain ⟨aj, cj, oj, hcj, stj, djj⟩ := rsj.row (i := j) (by omega)
              have hmj := Mat_nth (unhide HMT) htl3
              rw [hnj] at oj hcj stj djj
              obtain ⟨gj, cj', ej, hgjB, hgj2, _, _⟩ := oj.at_len hmj.1 (by omega)
              injection ej with ej _ ec
              subst ej
              subst ec
              rw [hmj.1] at oj hcj stj djj
              have hcl3 := oj.cell (j := k) (by rw [hmj.1]; exact hkn)
              have hld3 := hmj.2 _ (nth_mem (k := k) (by rw [hmj.1]; exact hkn))
              have hqc5 := rsj.2.2.1.cell 0
              have hbx5 := rsj.2.2.2.1
              have hbw5 := rsj.2.2.2.2.2
              have OJ := hide oj
              have STJ := hide stj
              have DJJ := hide djj
              have HMJ := hide hmj
              have RSJ := hide rsj
              have HROO := Lib.hid hRO
              have HNJ := Lib.hid hnj
              have HEL3 := Lib.hid hel3
              clear oj stj djj hmj rsj hRO hnj hel3
              by_cases hjt : j = piv.length
              · have hbn : ((j : Int) != (piv.length : Int)) = false := by rw [bne_eq_false_iff_eq]; omega
                have HJT := Lib.hid hjt
                clear hjt
                go_wp2_with fail
                go_roundw
                case rel =>
                 refine ⟨j + 1, by go_num, by omega, ?_⟩
                 rw [elimTo, if_pos HJT.out, ← HROO.out]
                 exact RSJ
                case measure => simp only [intOf]; omega
              · have hbn : ((j : Int) != (piv.length : Int)) = true := by rw [bne_iff_ne]; omega
                obtain ⟨z, hZ⟩ : ∃ z, z = nth (nthL tp j) k := ⟨_, rfl⟩
                rw [← hZ] at hcl3 hld3
                obtain ⟨zn, hzn⟩ := Int.eq_ofNat_of_zero_le hld3.1
                rw [hzn] at hcl3 hld3 hZ
                have HZ := Lib.hid hZ
                clear hZ hzn
                by_cases hz : zn = 0
                · have hbz : ((zn : Int) != 0) = false := by rw [bne_eq_false_iff_eq]; omega
                  have hz0 : nth (nthL tp j) k = 0 := by rw [← HZ.out]; omega
                  have HZ0 := Lib.hid hz0
                  have HZN := Lib.hid hz
                  clear hz0 hz
                  go_wp2_with fail
                  go_roundw
                  case rel =>
                   refine ⟨j + 1, by go_num, by omega, ?_⟩
                   rw [elimTo_zero ok (unhide HMT) htl3 HZ0.out, ← HROO.out]
                   exact RSJ
                  case measure => simp only [intOf]; omega
                · have hbz : ((zn : Int) != 0) = true := by rw [bne_iff_ne]; omega
                  have htt : piv.length < tp.length := by rw [HML.out, hrl.out]; exact hpt
                  have hto : piv.length < ro.length := by rw [HEL3.out]; exact htt
                  obtain ⟨at_, ct, ot, hct, _, _⟩ := (unhide RSJ).row (i := piv.length) hto
                  have hnt : nthL ro piv.length = nthL tp piv.length := by rw [HROO.out, elimTo_nth j (by omega) piv.length, if_neg (by omega)]
                  have hmt := Mat_nth (unhide HMT) (i := piv.length) htt
                  have hdj := (unhide DJJ) piv.length at_ ct hto (by omega) hct
                  rw [hnt] at ot hct hdj
                  obtain ⟨gt, ct', et, hgtB, hgt2, _, _⟩ := ot.at_len hmt.1 (by omega)
                  injection et with et _ ec
                  subst et
                  subst ec
                  rw [hmt.1] at ot hct hdj
                  have hgg : gt ≠ gj := fun e => hdj gt rfl (by show some gj = some gt; rw [e])
                  obtain ⟨bS, oS, bs, os, cs, rfl, s1, s2⟩ := tab_at (tS.below hbw5) (i := 0) (j := zn) (by omega) (by omega)
                  have hDb3 := sub_bd ok 0 zn
                  rw [show ((0 : Nat) : Int) = 0 from rfl] at s2
                  have hat : Calls Tryz.prog 73 #[.agg #[.int .i64 F.n, .slice aA F.n cA, .slice (some ⟨bS, oS, none⟩) F.n cS, .slice aM F.n cM, .slice aI F.n cI], .slice (some ⟨gj, 0, none⟩) n cj, .slice (some ⟨gt, 0, none⟩) n ct, .int .i64 (F.sub 0 zn)] wr.drew fun e w' => e = .returned (.tuple #[]) ∧ Own w' w.heap.size (.slice (some ⟨gj, 0, none⟩) n cj) (addTo F (nthL tp j) (nthL tp piv.length) (F.sub 0 zn) (nthL tp j).length) ∧ wr.drew.grownBy w' (some gj) := by
                   have hmj := unhide HMJ
                   have h := addTimes_any F _ w wr.drew w.heap.size gj cj (some ⟨gt, 0, none⟩) ct (nthL tp j) (nthL tp piv.length) (F.sub 0 zn) ok ⟨aA, cA, _, cS, aM, cM, aI, cI, rfl, tA, tS, tM, tI⟩ hbw5.drew (Nat.le_refl _) (by rw [hmj.1]; exact (unhide OJ).drewN 1) (ot.rd.drewN 1) (fun p hp => by injection hp with hp; rw [← hp]; exact hgg) (by rw [hmj.1, hmt.1]) hDb3.1 hDb3.2 hmj.2 hmt.2
                   rw [hmj.1, hmt.1] at h
                   rw [hmj.1]
                   exact h
                  obtain ⟨D3, hD3⟩ : ∃ D3, D3 = F.sub 0 zn := ⟨_, rfl⟩
                  have HST3 := Lib.hid (elimTo_step (c := k) (t := piv.length) (rows := tp) ok hjt)
                  rw [← HZ.out, ← hD3] at HST3
                  rw [← hD3] at s2 hat
                  have f0 := hbx5.cell 0
                  have f1 := hbx5.cell 1
                  have f2 := hbx5.cell 2
                  have f3 := hbx5.cell 3
                  have f4 := hbx5.cell 4
                  have HAT := hide hat
                  have hznn : zn < F.n := by omega
                  have hFn0 : 0 < F.n := by omega
                  clear hat hD3 hdj hmt hnt ot hbx5 hz hjt hDb3 tA tM tI tS
                  rw [Nat.add_zero] at s1
                  go_wp2_with fail
                  go_still_tail 16, (by kernel_rfl)
                  change wpList _ _ _ _ _ wr.drew
                  go_wp2_with fail
                  refine (unhide HAT).mono ?_
                  rintro e w5 ⟨rfl, o5, g5⟩
                  go_wp2_with fail
                  go_roundw
                  case rel =>
                   refine ⟨j + 1, by go_num, by omega, ?_⟩
                   rw [HST3.out, ← HROO.out]
                   exact hide ((unhide STJ) w5 _ o5 (by rw [addTo_len]; exact (unhide HMJ).1) (grown_trans_row (⟨rfl, rfl, rfl, Nat.le_refl _, fun _ _ _ => rfl⟩ : wr.grownBy wr.drew (some gj)) g5))
                  case measure => simp only [intOf]; omega
            · have hje : j = xss.length := by omega
              have HJ3 := Lib.hid hje
              clear hje
              have hq3 := hrj.out.2.2.1.cell 0
              have hb3 := hrj.out.2.2.2.2.2.size
              have hpx : piv.length + [(k : Int)].length ≤ 1073741824 := by simp; omega
              have op3 := hrj.out.2.1
              have HGO2 : Hid (red F xss (k + 1) = (elimTo F k piv.length tp xss.length, piv ++ [(k : Int)])) := Lib.hid (by rw [← hrl.out]; exact HGO.out)
              have hrj2 := unhide hrj
              rw [HJ3.out] at hrj2
              have RJ2 := hide hrj2
              have HEL : Hid ((elimTo F k piv.length tp xss.length).length = xss.length) := Lib.hid (by rw [elimTo_len, HML.out, hrl.out])
              clear hrj2
              by_cases hlast : piv.length + 1 = xss.length
              · have hbe : ((piv.length : Int) + 1 == (xss.length : Int)) = true := by rw [beq_iff_eq]; omega
                have hbe2 : (piv.length + 1 == xss.length) = true := by rw [beq_iff_eq]; omega
                have HLA := Lib.hid hlast
                clear hlast
                go_wp2_with (at_builtin; refine wpList_append_ints rfl (.tmp 148) (.tmp 150) rfl w.heap.size (.slice ua piv.length uc) piv [(k : Int)] rfl (op3.alloc _) _ 1 1 rfl rfl (Rd.one wr (k : Int) _) hpx (by simp; omega) ?_; intro v1 w3 hown1 hg1 hc1; obtain ⟨ua2, uc2, e2, _, _⟩ := hown1.form; rw [show (piv ++ [(k : Int)]).length = piv.length + 1 by simp] at e2; subst e2; have R6 := hide ((unhide RJ2).push _ hown1 hg1 hc1); clear hown1 hg1 hc1)
                go_ret3
                have rs6 := unhide R6
                have hfull := red_full (F := F) (rows := xss) (c := k + 1) (d := n) (by rw [HGO2.out]; simp; have := HLA.out; omega) (by omega)
                refine ⟨_, _, _, rfl, ?_, ?_, rs6.2.2.2.2.2⟩
                · rw [form, hfull, HGO2.out]
                  show OwnS _ _ _ (List.take (piv ++ [(k : Int)]).length _)
                  rw [show (piv ++ [(k : Int)]).length = piv.length + 1 by simp]
                  exact rs6.1.own.take (by have := HLA.out; omega)
                · rw [hfull, HGO2.out]; exact rs6.2.1
              · have hbe : ((piv.length : Int) + 1 == (xss.length : Int)) = false := by rw [beq_eq_false_iff_ne]; omega
                have hbe2 : (piv.length + 1 == xss.length) = false := by rw [beq_eq_false_iff_ne]; omega
                have hll : (piv ++ [(k : Int)]).length < xss.length := by simp; omega
                have HLL := hide hll
                clear hll
                go_wp2_with (at_builtin; refine wpList_append_ints rfl (.tmp 148) (.tmp 150) rfl w.heap.size (.slice ua piv.length uc) piv [(k : Int)] rfl (op3.alloc _) _ 1 1 rfl rfl (Rd.one wr (k : Int) _) hpx (by simp; omega) ?_; intro v1 w3 hown1 hg1 hc1; obtain ⟨ua2, uc2, e2, _, _⟩ := hown1.form; rw [show (piv ++ [(k : Int)]).length = piv.length + 1 by simp] at e2; subst e2; have R6 := hide ((unhide RJ2).push _ hown1 hg1 hc1); have hq6 : w3.cell? ⟨gq, 0, none⟩ = some (.int .i64 k) := (unhide R6).2.2.1.cell 0; clear hown1 hg1 hc1)
                go_roundw
                case rel =>
                 refine ⟨k + 1, elimTo F k piv.length tp xss.length, piv ++ [(k : Int)], _, _, rfl, rfl, by omega, hEb.1, hEb.2, HGO2, HEL, unhide HLL, ?_⟩
                 have h6 := (unhide R6).step
                 exact hide h6
                case measure =>
                 rw [HBN.out]
                 show n - boxNat _ (.pointer (some ⟨_, 0, none⟩)) < _
                 rw [boxNat_step]
                 omega
        -- END
  · go_upto_region 5 with fail
    go_quiet (fail)
    go_wp2_with fail
    go_ret3
    have hke : k = n := by omega
    subst hke
    have rq := hrs.out.drewN nq
    have hr := hred.out
    refine ⟨_, _, _, rfl, ?_, ?_, rq.2.2.2.2.2⟩
    · rw [form, hr]; exact rq.1.own.take (by omega)
    · rw [hr]; exact rq.2.1
end Go.Proofs.YtkiljcbejmiioaaGreat
namespace Go.Proofs.YtkiljcbejmiioaaGreat
open Go.RowKit
attribute [local go_sem ↓] Go.wp_at_zero Go.wp_at_succ
theorem OwnC.nil (w : World) (B : Nat) : OwnC w B (.slice none 0 0) (.slice none 0 0) [] [] := ⟨B, Nat.le_refl _, Own.nil _ _, fun k hk => by simp [Value.ownBlock] at hk, OwnS.nil _ _⟩
theorem codeOf_any (F : FD) (ap : Option Addr) (cp : Nat) (ra : Option Addr) (rc : Nat) (xss : List (List Int)) (n : Nat) (w : World) (hR : Rd w ap F.poly) (hG : F.Good) (hx : RdS w ra xss) (h0 : 0 < xss.length) (hM : F.Mat n xss) :
    Calls Tryz.prog 31 #[.agg #[.int .i64 F.p, .int .i64 F.k, .slice ap F.poly.length cp], .slice ra xss.length rc] w (ResC w (mkC F (form F xss n))) := by
 have ok := hG.ok
 have hxl := hx.len
 obtain ⟨n2, n64⟩ := ok.n_bd
 obtain ⟨W0, hW0⟩ : ∃ W0, W0 = (w.alloc (.cells #[.int .i64 F.p, .int .i64 F.k, .slice ap F.poly.length cp] 30)).alloc (.cells #[.int .i64 0, .int .i64 0, .slice none 0 0, .slice none 0 0] 36) := ⟨_, rfl⟩
 have b0 : Below w.heap.size w W0 := by rw [hW0]; exact ((Below.refl _ _).alloc (Nat.le_refl _) _).alloc (by simp) _
 have kF : Blk W0 w.heap.size 30 #[.int .i64 F.p, .int .i64 F.k, .slice ap F.poly.length cp] := by rw [hW0]; exact (Blk.new _ _ _ rfl).alloc _
 have k0 : Blk W0 (w.heap.size + 1) 36 #[.int .i64 0, .int .i64 0, .slice none 0 0, .slice none 0 0] := by rw [hW0]; exact Blk.new _ _ _ (by simp)
 have s0 : w.heap.size + 1 < W0.heap.size := k0.lt
 have hT := tablesOf_any F ap cp W0 (hR.below b0) ok
 have hRd := fun tv W h1 h2 => reduce_any F tv ra rc xss n W h1 hG h2 h0 hM
 have hfl := form_len F xss n
 obtain ⟨rows, hrows⟩ : ∃ rows, rows = form F xss n := ⟨_, rfl⟩
 have hpl := red_piv F xss n
 rw [← hrows] at hRd hfl ⊢
 have hrb : rows.length ≤ 1073741824 := by omega
 have HT := hide hT
 have HRD := hide hRd
 have hx0 := hx.below b0
 have hR0 := hR.below b0
 have HW := Lib.hid hW0
 have hFS := fun W => fieldSize_any F ap cp W ok
 have hPU := fun W => powerUpTo_any F.n rows.length 4096 W (by omega) (by omega) (by omega) (by omega) (by omega)
 rw [Int.toNat_natCast] at hPU
 have HFS := hide hFS
 have HPU := hide hPU
 clear hT hRd hW0 hrows hfl hpl hFS hPU
 go_enter Tryz.func31, Tryz.ntmps31
 go_wp2_with fail
 rw [← HW.out]
 refine (unhide HT).mono ?_
 rintro e w1 ⟨tv, rfl, T1, b1⟩
 have hb1 := b0.trans (b1.mono (by omega))
 have kF1 := kF.below b1 kF.lt
 have k1 := k0.below b1 k0.lt
 have hx1 := hx0.below b1
 have hR1 := hR0.below b1
 have z1 := b1.size
 go_wp2_with fail
 refine (unhide HRD _ _ T1 hx1).mono ?_
 rintro e w2 ⟨v, u, d, rfl, o2, _, b2⟩
 obtain ⟨ra2, rc2, rfl, r2⟩ := o2.form
 have hb2 := hb1.trans (b2.mono (by omega))
 have kF2 := kF1.below b2 kF1.lt
 have k2 := k1.below b2 k1.lt
 have hR2 := hR1.below b2
 have z2 := b2.size
 clear T1 hx1 hx0 hx HT HRD
 by_cases hz : rows.length = 0
 · have HM := Lib.hid (show mkC F rows = (0, 0, [], [], 6) by rw [mkC, if_pos hz])
   have hzb : ((rows.length : Int) == 0) = true := by rw [beq_iff_eq]; omega
   clear hz
   have f0 := k2.cell 0
   have f1 := k2.cell 1
   have f2 := k2.cell 2
   have f3 := k2.cell 3
   have g0 := k2.frozen 0
   have g1 := k2.frozen 1
   have g2 := k2.frozen 2
   have g3 := k2.frozen 3
   go_wp2_with fail
   refine bodyPost_ret (results_cell_tmp_row rfl _ _ (w.heap.size + 1) 36 #[.int .i64 0, .int .i64 0, .slice none 0 0, .slice none 0 0] _ rfl (k2.b4.store _ _ _ _) Tryz.underlying36 rfl (by kernel_rfl)) rfl ?_
   show ResC w (mkC F rows) _ _
   rw [HM.out]
   exact ⟨_, _, rfl, OwnC.nil _ _, Below.set4 hb2 (by omega) _ _ _ _⟩
 · have hz' := hide hz
   have hzb : ((rows.length : Int) == 0) = false := by rw [beq_eq_false_iff_ne]; omega
   clear hz
   by_cases h8 : 8 < rows.length
   · have HM := Lib.hid (show mkC F rows = (0, 0, [], [], 5) by rw [mkC, if_neg (unhide hz'), if_pos (.inl h8)])
     have f0 := k2.cell 0
     have f1 := k2.cell 1
     have f2 := k2.cell 2
     have f3 := k2.cell 3
     have g0 := k2.frozen 0
     have g1 := k2.frozen 1
     have g2 := k2.frozen 2
     have g3 := k2.frozen 3
     go_wp2_with fail
     refine bodyPost_ret (results_cell_tmp_row rfl _ _ (w.heap.size + 1) 36 #[.int .i64 0, .int .i64 0, .slice none 0 0, .slice none 0 0] _ rfl (k2.b4.store _ _ _ _) Tryz.underlying36 rfl (by kernel_rfl)) rfl ?_
     show ResC w (mkC F rows) _ _
     rw [HM.out]
     exact ⟨_, _, rfl, OwnC.nil _ _, Below.set4 hb2 (by omega) _ _ _ _⟩
   · have h8' : ¬ (8 : Int) < (rows.length : Int) := by omega
     have e0 := kF2.cell 0
     have e1 := kF2.cell 1
     have e2 := kF2.cell 2
     have q0 := kF2.frozen 0
     have q1 := kF2.frozen 1
     have q2 := kF2.frozen 2
     go_wp2_with fail
     refine (unhide HFS _).mono ?_
     rintro e w3 ⟨rfl, b3⟩
     have hb3 := hb2.trans (b3.mono (by omega))
     have kF3 := kF2.below b3 kF2.lt
     have k3 := k2.below b3 k2.lt
     have hR3 := hR2.below b3
     have r3 := r2.below b3
     have z3 := b3.size
     clear e0 e1 e2 q0 q1 q2
     go_wp2_with fail
     refine (sizeS_any _ _ _ _).mono ?_
     rintro e w4 ⟨rfl, rfl⟩
     go_wp2_with fail
     refine (unhide HPU _).mono ?_
     rintro e w4 ⟨rfl, rfl⟩
     by_cases hc : 4096 < capTo F.n 4096 rows.length
     · have HM := Lib.hid (show mkC F rows = (0, 0, [], [], 5) by rw [mkC, if_neg (unhide hz'), if_pos (.inr hc)])
       have f0 := k3.cell 0
       have f1 := k3.cell 1
       have f2 := k3.cell 2
       have f3 := k3.cell 3
       have g0 := k3.frozen 0
       have g1 := k3.frozen 1
       have g2 := k3.frozen 2
       have g3 := k3.frozen 3
       go_wp2_with fail
       refine bodyPost_ret (results_cell_tmp_row rfl _ _ (w.heap.size + 1) 36 #[.int .i64 0, .int .i64 0, .slice none 0 0, .slice none 0 0] _ rfl (k3.b4.store _ _ _ _) Tryz.underlying36 rfl (by kernel_rfl)) rfl ?_
       show ResC w (mkC F rows) _ _
       rw [HM.out]
       exact ⟨_, _, rfl, OwnC.nil _ _, Below.set4 hb3 (by omega) _ _ _ _⟩
     · have HM := Lib.hid (show mkC F rows = (F.p, (F.k : Int), F.poly, rows, 0) by rw [mkC, if_neg (unhide hz'), if_neg (by omega)])
       have hc' : ¬ (4096 : Int) < capTo F.n 4096 rows.length := hc
       have e0 := kF3.cell 0
       have e1 := kF3.cell 1
       have e2 := kF3.cell 2
       have q0 := kF3.frozen 0
       have q1 := kF3.frozen 1
       have q2 := kF3.frozen 2
       go_wp2_with fail
       refine (clone_any ap cp F.poly w3 hR3).mono ?_
       rintro e w4 ⟨v4, rfl, o4, b4⟩
       obtain ⟨a4, c4, rfl, r4, _⟩ := o4.form
       clear e0 e1 e2 q0 q1 q2
       have hb4 := hb3.trans (b4.mono (by omega))
       have kF4 := kF3.below b4 kF3.lt
       have k4 := k3.below b4 k3.lt
       have z4 := b4.size
       have e0 := kF4.cell 0
       have e1 := kF4.cell 1
       have e2 := kF4.cell 2
       have q0 := kF4.frozen 0
       have q1 := kF4.frozen 1
       have q2 := kF4.frozen 2
       go_upto_region 7 with fail
       obtain ⟨W5, hW5⟩ : ∃ W5, W5 = w4.setCell ⟨w.heap.size, 2, none⟩ (.slice a4 F.poly.length c4) := ⟨_, rfl⟩
       have s1 : w.heap.size < w1.heap.size := by omega
       have s3 : w.heap.size < w3.heap.size := by omega
       have kF5 : Blk W5 w.heap.size 30 #[.int .i64 F.p, .int .i64 F.k, .slice a4 F.poly.length c4] := by rw [hW5]; exact kF4.set_ 2 _
       have k5 : Blk W5 (w.heap.size + 1) 36 #[.int .i64 0, .int .i64 0, .slice none 0 0, .slice none 0 0] := by rw [hW5]; exact k4.far (by show w.heap.size + 1 ≠ w.heap.size; omega) _
       have hb5 : Below w.heap.size w W5 := by rw [hW5]; exact hb4.setCell (Nat.le_refl _) _
       have r5 : RdS W5 ra2 rows := by rw [hW5]; exact (((o2.below b3 (Nat.le_refl _)).below b4 (Nat.le_refl _)).storeBelow s1 _).rd
       have o5 : Own W5 w3.heap.size (.slice a4 F.poly.length c4) F.poly := by rw [hW5]; exact o4.storeBelow s3 _
       have s5 : w4.heap.size = W5.heap.size := by rw [hW5]; simp
       rw [← hW5]
       clear hW5 e0 e1 e2 q0 q1 q2 kF4 k4 kF3 k3 kF2 k2 kF1 k1
       have boxes : ∀ W, W5.grownBy W (some (w.heap.size + 1)) → B4 W (w.heap.size + 1) 36 → (W5.grownBy W (some (w.heap.size + 1)) ∧ W.cell? ⟨w.heap.size, 0, none⟩ = some (.int .i64 F.p) ∧ W.cell? ⟨w.heap.size, 1, none⟩ = some (.int .i64 F.k) ∧ W.cell? ⟨w.heap.size, 2, none⟩ = some (.slice a4 F.poly.length c4) ∧ B4 W (w.heap.size + 1) 36) := fun W hg hk =>
        ⟨hg, (kF5.grown hg (by simp)).cell 0, (kF5.grown hg (by simp)).cell 1, (kF5.grown hg (by simp)).cell 2, hk⟩
       have BX := hide boxes
       have K5 := k5.b4
       have hcp := fun W h => copyLists_any ra2 rc2 rows W h
       have HCP := hide hcp
       have R5 := hide r5
       clear boxes hcp r5
       go_region_held3 (fun W => W5.grownBy W (some (w.heap.size + 1)) ∧ W.cell? ⟨w.heap.size, 0, none⟩ = some (.int .i64 F.p) ∧ W.cell? ⟨w.heap.size, 1, none⟩ = some (.int .i64 F.k) ∧ W.cell? ⟨w.heap.size, 2, none⟩ = some (.slice a4 F.poly.length c4) ∧ B4 W (w.heap.size + 1) 36)
        (first | exact (unhide BX) _ (grown_refl _ _) K5 | exact (unhide BX) _ (grown_drew1 _ _) K5.drew | exact (unhide BX) _ (by assumption) (by assumption) | exact (unhide BX) _ (grown_set4 hG1 _ _ _ _) (K6.store _ _ _ _).b4)
        (first
         | (go_at_call 41; refine (unhide HCP _ ?_).mono ?_; exact (unhide R5).drewN 1; rintro e W6 ⟨v6, rfl, o6, b6⟩; obtain ⟨a6, c6, rfl, _⟩ := o6.form; have hG1 := grown_trans_row (grown_drew1 W5 (some (w.heap.size + 1))) (grown_below b6 _); have K6 := B4.below (And.right (And.right (And.right (And.right (by assumption))))) b6; obtain ⟨x1, y1, z1, u1, KK⟩ := id K6; have f0 := KK.cell 0; have f1 := KK.cell 1; have f2 := KK.cell 2; have f3 := KK.cell 3; have g0 := KK.frozen 0; have g1 := KK.frozen 1; have g2 := KK.frozen 2; have g3 := KK.frozen 3))
       go_wp2
       have s6 : W5.heap.size ≤ W6.heap.size := b6.size
       have hb6 : Below w.heap.size w W6 := hb5.drew.trans (b6.mono (by show w.heap.size ≤ W5.heap.size; omega))
       have p3 : w.heap.size + 1 < w3.heap.size := by omega
       have p5 : w.heap.size + 1 < W5.drew.heap.size := by show w.heap.size + 1 < W5.heap.size; omega
       refine bodyPost_ret (results_cell_tmp_row rfl _ _ (w.heap.size + 1) 36 #[.int .i64 F.p, .int .i64 F.k, .slice a4 F.poly.length c4, .slice a6 rows.length c6] _ rfl (K6.store _ _ _ _) Tryz.underlying36 rfl (by kernel_rfl)) rfl ?_
       show ResC w (mkC F rows) _ _
       rw [HM.out]
       refine ⟨_, _, rfl, ⟨W5.heap.size, by omega, ?_, ?_, ?_⟩, Below.set4 hb6 (by omega) _ _ _ _⟩
       · exact (((((o5.drewN 1).below b6 (Nat.le_refl _)).storeBelow p3 _).storeBelow p3 _).storeBelow p3 _ |>.storeBelow p3 _).mono (by omega)
       · intro j hj
         have := o5.lt j hj
         omega
       · exact (((o6.storeBelow p5 _).storeBelow p5 _).storeBelow p5 _).storeBelow p5 _
end Go.Proofs.YtkiljcbejmiioaaGreat
namespace Go.Proofs.YtkiljcbejmiioaaGreat
open Go.RowKit
attribute [local go_sem ↓] Go.wp_at_zero Go.wp_at_succ
theorem index_any (a : Option Addr) (c : Nat) (xs : List Int) (x : Int) (w : World) (hx : Rd w a xs) : Calls Tryz.prog 136 #[.slice a xs.length c, .int .i64 x] w fun e w' => e = .returned (.int .i64 (firstOf (fun y => x == y) xs)) ∧ w = w' := by
 have hxl := hx.len
 go_enter Tryz.func136, Tryz.ntmps136
 go_wp2
 go_loopw [8] (fun i wr => ∃ k : Nat, i = .int .i64 k ∧ k ≤ xs.length ∧ Hid (∀ j, j < k → (x == nth xs j) = false) ∧ w = wr) (fun i _ => xs.length - (intOf i).toNat)
 case atStart => exact ⟨0, rfl, Nat.zero_le _, fun j hj => by omega, rfl⟩
 case round =>
  obtain ⟨k, rfl, hk, hq, rfl⟩ := hrel
  by_cases hkl : k < xs.length
  · obtain ⟨b1, o1, rfl, _, hc⟩ := hx.at_ (by omega)
    have h1 := hc k hkl
    obtain ⟨r, hr⟩ : ∃ r, (x == nth xs k) = r := ⟨_, rfl⟩
    have HR := Lib.hid hr
    generalize nth xs k = y at h1 hr
    clear hc
    cases r
    · go_wp2
      go_roundw
      case rel =>
       refine ⟨k + 1, by go_num, by omega, fun j hj => ?_, trivial⟩
       rcases Nat.lt_succ_iff_lt_or_eq.1 hj with h | rfl
       · exact hq.out j h
       · exact HR.out
      case measure => simp [intOf]; omega
    · go_wp2
      go_ret
      exact ⟨ret_int (firstOf_yes (p := fun y => x == y) hkl HR.out hq.out).symm, rfl⟩
  · go_wp2
    go_ret
    exact ⟨ret_int (firstOf_no (p := fun y => x == y) (fun j hj => hq.out j (by omega))).symm, rfl⟩
theorem contains_any (a : Option Addr) (c : Nat) (xs : List Int) (x : Int) (w : World) (hx : Rd w a xs) : Calls Tryz.prog 101 #[.slice a xs.length c, .int .i64 x] w fun e w' => e = .returned (.bool (xs.contains x)) ∧ w = w' := by
 have hc := index_any a c xs x w hx
 rw [List.contains_eq_any_beq, any_firstOf]
 generalize firstOf (fun y => x == y) xs = r at hc
 have HC := hide hc
 clear hc
 by_cases h0 : 0 ≤ r
 · go_enter Tryz.func101, Tryz.ntmps101
   go_wp2_with fail
   refine (unhide HC).mono ?_
   rintro e w1 ⟨rfl, rfl⟩
   go_wp2
   go_ret
   exact ⟨ret_bool (by simp [h0]), rfl⟩
 · go_enter Tryz.func101, Tryz.ntmps101
   go_wp2_with fail
   refine (unhide HC).mono ?_
   rintro e w1 ⟨rfl, rfl⟩
   go_wp2
   go_ret
   exact ⟨ret_bool (by simp [show ¬ 0 ≤ r by omega]), rfl⟩
theorem OwnS.nil_form {w : World} {B : Nat} {v : Value} (h : OwnS w B v []) : v = .slice none 0 0 ∨ ∃ g c, v = .slice (some ⟨g, 0, none⟩) 0 c := by
 obtain ⟨_, vs, hr, _⟩ := h
 rcases hr.2 with ⟨rfl, _⟩ | ⟨g, cap, cur, rfl, _⟩
 · exact .inl rfl
 · exact .inr ⟨g, cap, rfl⟩
theorem reduce_nil (F : FD) (aA : Option Addr) (cA : Nat) (aS : Option Addr) (cS : Nat) (aM : Option Addr) (cM : Nat) (aI : Option Addr) (cI : Nat) (a : Option Addr) (c : Nat) (w : World) :
    Calls Tryz.prog 28 #[.agg #[.int .i64 F.n, .slice aA F.n cA, .slice aS F.n cS, .slice aM F.n cM, .slice aI F.n cI], .slice a 0 c] w fun e w' => ∃ v u d, e = .returned (.tuple #[v, u, .int .i64 d]) ∧ OwnS w' w.heap.size v [] ∧ Own w' w.heap.size u [] ∧ Below w.heap.size w w' := by
 obtain ⟨W0, hW0⟩ : ∃ W0, W0 = w.alloc (.cells #[.int .i64 F.n, .slice aA F.n cA, .slice aS F.n cS, .slice aM F.n cM, .slice aI F.n cI] 60) := ⟨_, rfl⟩
 have bT : Below w.heap.size w W0 := by rw [hW0]; exact (Below.refl _ _).alloc (Nat.le_refl _) _
 have sT : W0.heap.size = w.heap.size + 1 := by rw [hW0]; simp
 have HW := Lib.hid hW0
 have hcp := copyLists_any a c [] W0 (RdS.nil _ _)
 have HCP := hide hcp
 clear hW0 hcp
 go_enter Tryz.func28, Tryz.ntmps28
 go_wp2_with fail
 rw [← HW.out]
 refine (unhide HCP).mono ?_
 rintro e w1 ⟨v1, rfl, o1, b1⟩
 have b2 : Below w1.heap.size w1 (w1.alloc (.cells #[.int .i64 0] 3)) := (Below.refl _ _).alloc (Nat.le_refl _) _
 have bb : Below w.heap.size w (w1.alloc (.cells #[.int .i64 0] 3)) := (bT.trans (b1.mono (by omega))).trans (b2.mono (by have := b1.size; omega))
 obtain ⟨W2, hW2⟩ : ∃ z, z = w1.alloc (.cells #[.int .i64 0] 3) := ⟨_, rfl⟩
 have o2 : OwnS W2 w.heap.size v1 [] := by rw [hW2]; exact (o1.below b2 (Nat.le_refl _)).mono (by omega)
 have kq : Blk W2 w1.heap.size 3 #[.int .i64 0] := by rw [hW2]; exact Blk.new _ _ _ rfl
 rw [← hW2] at bb
 have H2 := Lib.hid hW2
 clear hW2 b2
 rcases o1.nil_form with rfl | ⟨g1, c1, rfl⟩
 all_goals
  have O2 := Lib.hid o2
  have q0 := kq.cell 0
  clear o2 o1
  go_wp2_with fail
  rw [← H2.out]
  go_loopw [8, 9, 10] (fun u dv cv wr => u = .slice none 0 0 ∧ dv = .int .i64 1 ∧ cv = .pointer (some ⟨w1.heap.size, 0, none⟩) ∧ wr = W2) (fun _ _ _ _ => 0)
  case atStart => exact ⟨rfl, rfl, rfl, rfl⟩
  case round =>
   obtain ⟨rfl, rfl, rfl, rfl⟩ := hrel
   go_upto_region 5 with fail
   go_quiet (fail)
   go_wp2_with fail
   go_ret3
   exact ⟨_, _, _, rfl, O2.out.drewN _, Own.nil _ _, bb.trans (Qt.below ⟨_, rfl⟩ _)⟩
theorem nullSpace_any (F : FD) (tv : Value) (ra : Option Addr) (rc : Nat) (m : List (List Int)) (n : Nat) (w : World) (hT : Tabs w F tv) (hG : F.Good) (hx : RdS w ra m) (h0 : 0 < m.length) (hM : F.Mat n m) (hn1 : 1 ≤ n) (hn : n ≤ 1000) :
    Calls Tryz.prog 45 #[tv, .slice ra m.length rc, .int .i64 n] w fun e w' => ∃ v, e = .returned v ∧ OwnS w' w.heap.size v (nul F m n) ∧ Below w.heap.size w w' := by
 have hT0 := hT
 obtain ⟨aA, cA, aS, cS, aM, cM, aI, cI, rfl, tA, tS, tM, tI⟩ := hT
 have ok := hG.ok
 obtain ⟨n2, n64⟩ := ok.n_bd
 obtain ⟨W0, hHW⟩ : ∃ z, z = w.alloc (.cells #[.int .i64 F.n, .slice aA F.n cA, .slice aS F.n cS, .slice aM F.n cM, .slice aI F.n cI] 60) := ⟨_, rfl⟩
 have b0 : Below w.heap.size w W0 := by rw [hHW]; exact (Below.refl _ _).alloc (Nat.le_refl _) _
 have kT : Blk W0 w.heap.size 60 #[.int .i64 F.n, .slice aA F.n cA, .slice aS F.n cS, .slice aM F.n cM, .slice aI F.n cI] := by rw [hHW]; exact Blk.new _ _ _ rfl
 have sk0 : w.heap.size < W0.heap.size := kT.lt
 have HW := Lib.hid hHW
 clear hHW
 have hR := reduce_any F _ ra rc m n W0 (hT0.below b0) hG (hx.below b0) h0 hM
 obtain ⟨pv, hpv, hE, _⟩ := form_ech hG hM
 have hnb : nul F m n = form F (nulTo F (form F m n) (red F m n).2 n n) n := rfl
 have hfM := form_Mat ok hM
 have hfl := form_len F m n
 obtain ⟨fm, hfm⟩ : ∃ fm, fm = form F m n := ⟨_, rfl⟩
 obtain ⟨piv, hpiv⟩ : ∃ piv, piv = (red F m n).2 := ⟨_, rfl⟩
 rw [← hfm] at hR hE hnb hfM hfl
 rw [← hpiv] at hR hpv hnb hfl
 have hpb : ∀ j, j < piv.length → ∃ p : Nat, nth piv j = (p : Int) ∧ p < n := fun j hj => by
  have hj' : j < pv.length := by rw [hpv, List.length_map] at hj; exact hj
  refine ⟨pv.getD j 0, ?_, hE.lt j hj'⟩
  rw [hpv, nth_lt (by rw [List.length_map]; exact hj'), List.getElem_map, List.getD_eq_getElem?_getD, List.getElem?_eq_getElem hj']
  rfl
 have hmk := fun W => run_make_row' (P := Tryz.prog) 28 2 (.int .i64 0) 8 Tryz.underlying28 Tryz.info_i64 rfl .i64 .i64 n (by omega) (by omega) W
 have hRE := fun (b : Option Addr) (d : Nat) (xss : List (List Int)) (W : World) (hB : Below w.heap.size w W) (hy : RdS W b xss) (hMx : F.Mat n xss) (hp : 0 < xss.length) => reduce_any F _ b d xss n W (hT0.below hB) hG hy hp hMx
 have HR := hide hR
 have HRE := hide hRE
 have HPB := hide hpb
 have HNB := Lib.hid hnb
 have HFM := hide hfM
 have HFL := Lib.hid hfl
 have HMK := hide hmk
 have TS := hide (tS.below b0)
 clear hR hRE hpb hnb hfM hfl hmk hpv hE hfm hpiv hT0 tA tS tM tI hx hM
 have f0 := kT.cell 0
 have f1 := kT.cell 1
 have f2 := kT.cell 2
 have f3 := kT.cell 3
 have f4 := kT.cell 4
 go_enter Tryz.func45, Tryz.ntmps45
 go_upto_region 1 with fail
 rw [← HW.out]
 go_wp2_with fail
 refine (unhide HR).mono ?_
 rintro e w1 ⟨v1, u1, d1, rfl, oV, oU, b1⟩
 obtain ⟨av, cv, rfl, rV⟩ := oV.form
 obtain ⟨au, cu, rfl, rU, _⟩ := oU.form
 have k1 := kT.below b1 kT.lt
 have z1 := b1.size
 have bw1 : Below w.heap.size w w1 := b0.trans (b1.mono (Nat.le_of_lt sk0))
 have RV := hide rV
 have hpl30 := rU.len
 have RU := hide rU
 clear f0 f1 f2 f3 f4 oV oU rV rU
 go_wp2_with fail
 go_loopw [10, 23] (fun v cv wr => ∃ c : Nat, cv = .int .i64 c ∧ c ≤ n ∧ Hid (OwnS wr w1.heap.size v (nulTo F fm piv n c)) ∧ Below w1.heap.size w1 wr) (fun _ cv _ => n - (intOf cv).toNat)
 case atStart => exact ⟨0, rfl, Nat.zero_le _, OwnS.nil _ _, Below.refl _ _⟩
 case round =>
  obtain ⟨c, rfl, hc, ho, hb⟩ := hrel
  rename World => wo
  have hsz := hb.size
  by_cases hcn : c < n
  · have hcon := contains_any au cu piv c wo ((unhide RU).below hb)
    have hst : nulTo F fm piv n (c + 1) = if piv.contains (c : Int) = true then nulTo F fm piv n c else nulTo F fm piv n c ++ [nulV F fm piv n c] := rfl
    obtain ⟨r, hr⟩ : ∃ r, piv.contains (c : Int) = r := ⟨_, rfl⟩
    rw [hr] at hcon hst
    have HCON := hide hcon
    clear hcon hr
    cases r
    · rw [if_neg (by simp)] at hst
      have HST := Lib.hid hst
      have hlen : (nulTo F fm piv n c).length + 1 ≤ 1073741824 := by have := nulTo_le F fm piv n c; omega
      have hmk := unhide HMK
      clear hst
      go_wp2_with fail
      refine (unhide HCON).mono ?_
      rintro e w2 ⟨rfl, rfl⟩
      go_upto_region 8 with fail
      obtain ⟨W2, hW2⟩ : ∃ z, z = wo.alloc (.cells (madeCells #[.int .i64 0] n) 2) := ⟨_, rfl⟩
      have oz : Own W2 wo.heap.size (.slice (some ⟨wo.heap.size, 0, none⟩) n n) (zeros n) := by rw [hW2]; exact Own.zeros wo (Nat.le_refl _) (by omega)
      have bz : Below wo.heap.size wo W2 := by rw [hW2]; exact (Below.refl _ _).alloc (Nat.le_refl _) _
      have oc := oz.cell (j := c) (by rw [zeros_len]; exact hcn)
      have of_ := oz.frozen c
      have ou := (oz.set c 1).1
      have bu : Below wo.heap.size wo (W2.setCell ⟨wo.heap.size, c, none⟩ (.int .i64 1)) := bz.setCell (Nat.le_refl _) _
      rw [← hW2]
      clear hW2 oz bz hmk
      go_upto_region 9 with fail
      obtain ⟨W3, hW3⟩ : ∃ z, z = W2.setCell ⟨wo.heap.size, c, none⟩ (.int .i64 1) := ⟨_, rfl⟩
      rw [← hW3] at ou bu ⊢
      have s3 := bu.size
      have OU := Lib.hid ou
      clear hW3 oc of_ ou
      go_wp2_with fail
      go_loopw [36] (fun jv wr => ∃ j : Nat, jv = .int .i64 j ∧ j ≤ piv.length ∧ Hid (Own wr wo.heap.size (.slice (some ⟨wo.heap.size, 0, none⟩) n n) (nulIn F fm piv n c j)) ∧ Below wo.heap.size wo wr) (fun jv _ => piv.length - (intOf jv).toNat)
      case atStart => exact ⟨0, rfl, Nat.zero_le _, OU, bu⟩
      case round =>
       obtain ⟨j, rfl, hj, ho2, hb2⟩ := hrel
       by_cases hjl : j < piv.length
       · have hb12 := hb.trans (hb2.mono hsz)
         obtain ⟨gu, ou, rfl, _, hcu⟩ := ((unhide RU).below hb12).at_ (by omega)
         obtain ⟨p, hp, hpn⟩ := unhide HPB j hjl
         have hu := hcu j hjl
         rw [hp] at hu
         have hjf : j < fm.length := by rw [HFL.out]; exact hjl
         obtain ⟨gv, ov, rfl, _, hcv⟩ := ((unhide RV).below hb12).at_ (by omega)
         obtain ⟨ay, cy, hv1, hvr⟩ := hcv j hjf
         have hmt := Mat_nth (unhide HFM) hjf
         rw [hmt.1] at hv1
         obtain ⟨gy, oy, rfl, _, hcy⟩ := hvr.at_ (by rw [hmt.1]; omega)
         have hy := hcy c (by rw [hmt.1]; exact hcn)
         have hyr := hmt.2 _ (nth_mem (k := c) (by rw [hmt.1]; exact hcn))
         have hst2 : nulIn F fm piv n c (j + 1) = (nulIn F fm piv n c j).set p (F.sub 0 (nth (nthL fm j) c)) := by rw [nulIn, hp]; rfl
         obtain ⟨y, hy'⟩ := Int.eq_ofNat_of_zero_le hyr.1
         rw [hy'] at hy hyr hst2
         have hyn : y < F.n := by omega
         obtain ⟨bS, oS, bs, os, cs, rfl, s1, s2⟩ := tab_at ((unhide TS).below (b1.trans (hb12.mono z1))) (i := 0) (j := y) (by omega) hyn
         rw [Nat.add_zero] at s1
         have hn0 : 0 < F.n := by omega
         have kx := (k1.below hb k1.lt).below hb2 (by have := k1.lt; omega)
         have t2 := kx.cell 2
         have hxl := nulIn_len F fm piv n c j
         have xc := ho2.out.cell (j := p) (by rw [hxl]; exact hpn)
         have xf := ho2.out.frozen p
         obtain ⟨D, hD⟩ : ∃ D, D = F.sub 0 y := ⟨_, rfl⟩
         replace s2 : wr.cell? ⟨bs, os + y, none⟩ = some (.int .i64 D) := by rw [hD]; exact s2
         rw [← hD] at hst2
         obtain ⟨old, hold⟩ : ∃ old, old = nth (nulIn F fm piv n c j) p := ⟨_, rfl⟩
         rw [← hold] at xc
         have HST2 := Lib.hid hst2
         clear hold hD hst2 hy' hp hcu hcv hvr hcy hmt hxl kx hyr
         go_upto_region 12 with fail
         go_region
         go_wp2
         go_roundw
         case rel =>
          have hs := ho2.out.set p D
          refine ⟨j + 1, by go_num, by omega, ?_, (hb2.grown hs.2 hb2.size (fun q hq => by injection hq; omega)).drew⟩
          show Own _ _ _ _
          rw [HST2.out]
          exact hs.1.drewN 1
         case measure => simp only [intOf]; omega
       · have hke : j = piv.length := by omega
         have HE := Lib.hid hke
         clear hke
         have o5 := ho2.out
         rw [HE.out] at o5
         have hnl : (nulV F fm piv n c).length = n := nulIn_len _ _ _ _ _ _
         have o5 : Own wr wo.heap.size (.slice (some ⟨wo.heap.size, 0, none⟩) n n) (nulV F fm piv n c) := o5
         have hsx := hb2.size
         have hH := ho.out.toH.belw hb2 (Nat.le_refl _)
         have O5 := Lib.hid o5
         clear o5 hnl
         go_wp2_with (at_builtin; refine wpList_append_row rfl (.tmp 58) (.tmp 60) rfl (v := u10) rfl (hH.belw ((Below.refl _ _).alloc (Nat.le_refl _) _) hsx) _ rfl ((Blk.new wr 28 #[.slice (some ⟨wo.heap.size, 0, none⟩) n n] rfl).cell 0) (O5.out.alloc _) hsz (by simp; omega) hlen ?_; intro v2 w2 o2 g2 _)
         go_roundw
         case rel =>
          refine ⟨c + 1, by go_num, by omega, ?_, Below.stepS ((hb.trans (hb2.mono hsz)).alloc (by omega) _) g2 (hH.belw ((Below.refl _ _).alloc (Nat.le_refl _) _) hsx).own (Nat.le_refl _) (by simp; omega)⟩
          show OwnS _ _ _ _
          rw [HST.out]
          exact o2
         case measure => simp only [intOf]; omega
    · rw [if_pos rfl] at hst
      have HST := Lib.hid hst
      clear hst
      go_wp2_with fail
      refine (unhide HCON).mono ?_
      rintro e w2 ⟨rfl, rfl⟩
      go_wp2
      go_roundw
      case rel => exact ⟨c + 1, by go_num, by omega, by show OwnS _ _ _ _; rw [HST.out]; exact ho.out, hb⟩
      case measure => simp only [intOf]; omega
  · have hke : c = n := by omega
    have HE := Lib.hid hke
    clear hke
    have o5 := ho.out
    rw [HE.out] at o5
    have hMb := nulTo_Mat ok fm piv n n
    obtain ⟨bs, hbs⟩ : ∃ bs, bs = nulTo F fm piv n n := ⟨_, rfl⟩
    rw [← hbs] at o5 hMb
    have hnb : nul F m n = form F bs n := by rw [HNB.out, hbs]
    have HNB2 := Lib.hid hnb
    have kr := k1.below hb k1.lt
    have f0 := kr.cell 0
    have f1 := kr.cell 1
    have f2 := kr.cell 2
    have f3 := kr.cell 3
    have f4 := kr.cell 4
    obtain ⟨ab, cb, rfl, rb⟩ := o5.form
    have hbw := bw1.trans (hb.mono (by have := bw1.size; omega))
    have zw := hbw.size
    have hre : Calls Tryz.prog 28 #[.agg #[.int .i64 F.n, .slice aA F.n cA, .slice aS F.n cS, .slice aM F.n cM, .slice aI F.n cI], .slice ab bs.length cb] wo fun e w' => ∃ v u d, e = .returned (.tuple #[v, u, .int .i64 d]) ∧ OwnS w' wo.heap.size v (form F bs n) ∧ Below wo.heap.size wo w' := by
     by_cases h0 : 0 < bs.length
     · refine (unhide HRE ab cb bs wo hbw rb hMb h0).mono ?_
       rintro e w2 ⟨v, u, d, rfl, o, _, b⟩
       exact ⟨v, u, d, rfl, o, b⟩
     · have hbn : bs = [] := List.eq_nil_of_length_eq_zero (by omega)
       rw [hbn, form_nil]
       refine (reduce_nil F aA cA aS cS aM cM aI cI ab cb wo).mono ?_
       rintro e w2 ⟨v, u, d, rfl, o, _, b⟩
       exact ⟨v, u, d, rfl, o, b⟩
    have HRX := hide hre
    clear hre hbs hnb hMb o5 rb ho
    go_wp2_with fail
    refine (unhide HRX).mono ?_
    rintro e w2 ⟨v, u, d, rfl, o, b⟩
    go_wp2
    go_ret
    exact ⟨_, rfl, by rw [HNB2.out]; exact o.mono zw, hbw.trans (b.mono zw)⟩
end Go.Proofs.YtkiljcbejmiioaaGreat
