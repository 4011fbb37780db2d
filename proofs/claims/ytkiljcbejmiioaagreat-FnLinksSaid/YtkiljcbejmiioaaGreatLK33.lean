/-
  Texts joined.
-/
import Derived.Test.YtkiljcbejmiioaaGreatLK5
import Derived.Test.YtkiljcbejmiioaaGreatLK14
import Derived.Test.YtkiljcbejmiioaaGreatLK16
import Derived.Test.YtkiljcbejmiioaaGreatLK22
import Derived.Test.YtkiljcbejmiioaaGreatLK25
import Derived.Test.YtkiljcbejmiioaaGreatLK32
set_option linter.unusedVariables false
set_option linter.unusedSimpArgs false
set_option maxRecDepth 100000
set_option maxHeartbeats 40000000
namespace Go.Proofs.YtkiljcbejmiioaaGreat
open Go.RowKit
attribute [local go_sem ↓] Go.wp_at_zero Go.wp_at_succ
noncomputable def supW (F : FD) (n : Nat) (m : List (List Int)) (k : Int) : List (List Int) := distL (supps (wordsTo F n m m.length) k)
noncomputable def spRes (p d : Int) (xs : List Int) (m : List (List Int)) (k : Int) : List (List Int) × Int :=
 if okC p d xs m = true then (if inB k 1 (nthL m 0).length = true then (supW (fdR p d xs) (nthL m 0).length m k, 0) else ([], 2)) else ([], 1)
theorem compactNil_any (c : Nat) (w : World) : Calls Tryz.prog 95 #[.slice none 0 c, .func (.func 96) #[] #[]] w fun e w' => e = .returned (.slice none 0 c) ∧ w = w' := by
 go_enter Tryz.func95, Tryz.ntmps95
 go_wp2
 go_ret
 exact ⟨rfl, rfl⟩
theorem supportsOf_any (F : FD) (a : Option Addr) (c : Nat) (ra : Option Addr) (rc : Nat) (m : List (List Int)) (n : Nat) (k : Int) (w : World) (hR : Rd w a F.poly) (hm : RdS w ra m) (hC : GC F n m) :
    Calls Tryz.prog 40 #[.agg #[.int .i64 F.p, .int .i64 F.k, .slice a F.poly.length c, .slice ra m.length rc], .int .i64 k] w fun e w' => ∃ v, e = .returned v ∧ OwnS w' w.heap.size v (supW F n m k) ∧ Below w.heap.size w w' := by
 obtain ⟨w0, hw0⟩ : ∃ w0, w0 = w.alloc (.cells #[.int .i64 F.p, .int .i64 F.k, .slice a F.poly.length c, .slice ra m.length rc] 36) := ⟨_, rfl⟩
 have hb0 : Below w.heap.size w w0 := by rw [hw0]; exact (Below.refl _ _).alloc (Nat.le_refl _) _
 have k0 : Blk w0 w.heap.size 36 #[.int .i64 F.p, .int .i64 F.k, .slice a F.poly.length c, .slice ra m.length rc] := by rw [hw0]; exact Blk.new _ _ _ rfl
 have z0 := k0.lt
 have ok := hC.good.ok
 obtain ⟨n2, n64⟩ := ok.n_bd
 have HWO := hide (wordsOf_any F a c ra rc m n w0 (hR.below hb0) (hm.below hb0) hC)
 have hwl : (wordsTo F n m m.length).length ≤ 4096 := by
  have h1 := capTo_eq (by omega) hC.cap
  have h2 := hC.cap
  rw [h1, ← Int.natCast_pow] at h2
  rw [wordsTo_len]
  omega
 have hsw : supW F n m k = distL (supps (wordsTo F n m m.length) k) := rfl
 obtain ⟨W, hW⟩ : ∃ W, W = wordsTo F n m m.length := ⟨_, rfl⟩
 rw [← hW] at HWO hwl hsw
 have HSW := Lib.hid hsw
 have f0 := k0.cell 0
 have f1 := k0.cell 1
 have f2 := k0.cell 2
 have f3 := k0.cell 3
 rw [hw0] at f0 f1 f2 f3
 have HW := Lib.hid hw0
 clear hw0 hW hsw hC
 go_enter Tryz.func40, Tryz.ntmps40
 go_wp2_with fail
 rw [← HW.out]
 refine (unhide HWO).mono ?_
 rintro e w1 ⟨v1, rfl, o1, b1⟩
 obtain ⟨a1, c1, rfl, r1⟩ := o1.form
 have HR1 := hide r1
 have hb1 := hb0.trans (b1.mono (Nat.le_of_lt z0))
 have z1 := b1.size
 clear o1 r1 f0 f1 f2 f3
 go_wp2_with fail
 go_loopw [5, 11] (fun v iv wr => ∃ i : Nat, iv = .int .i64 i ∧ i ≤ W.length ∧ Hid (OwnS wr w1.heap.size v (supps (W.take i) k)) ∧ Below w1.heap.size w1 wr) (fun _ iv _ => W.length - (intOf iv).toNat)
 case atStart => exact ⟨0, rfl, Nat.zero_le _, OwnS.nil _ _, Below.refl _ _⟩
 case round =>
  obtain ⟨i, rfl, hi, ho, hb⟩ := hrel
  have hsz := hb.size
  rename World => wo
  by_cases hil : i < W.length
  · obtain ⟨b2, o2, rfl, hb2, hc⟩ := (unhide HR1).at_ (by omega)
    obtain ⟨ai, ci, h3, hri⟩ := hc i hil
    have g1 := (hb.cell (p := ⟨b2, o2 + i, none⟩) hb2).trans h3
    have hriW := hri.below hb
    have hwo := weightOf_any ai ci (nthL W i) wo hriW
    have hso := supportOf_any ai ci (nthL W i) wo hriW
    have hhit := supps_hit (W := W) (k := k) hil
    have hmis := supps_miss (W := W) (k := k) hil
    have hrl := hri.len
    have hSl := supps_len (W.take i) k
    rw [List.length_take] at hSl
    obtain ⟨row, hrow⟩ : ∃ row, row = nthL W i := ⟨_, rfl⟩
    rw [← hrow] at g1 hwo hso hhit hmis hrl
    obtain ⟨t, ht⟩ : ∃ t : Int, t = ((wt row : Nat) : Int) := ⟨_, rfl⟩
    rw [← ht] at hwo hhit hmis
    obtain ⟨S, hS⟩ : ∃ S, S = suppTo row row.length := ⟨_, rfl⟩
    rw [← hS] at hso hhit
    have HWT := hide hwo
    have HSO := hide hso
    clear hwo hso hriW hri h3 hc hrow ht hS
    by_cases hk : t = k
    · have HH := Lib.hid (hhit hk)
      have hke : (t == k) = true := by rw [beq_iff_eq]; exact hk
      have HO := hide ho.out.toH
      obtain ⟨L, hL⟩ : ∃ L, L = supps (W.take i) k := ⟨_, rfl⟩
      rw [← hL] at HO HH hSl
      have HK := Lib.hid hk
      clear hhit hmis ho hL hk
      go_wp2_with fail
      refine (unhide HWT).mono ?_
      rintro e w2 ⟨rfl, rfl⟩
      go_wp2_with fail
      refine (unhide HSO).mono ?_
      rintro e w3 ⟨v3, rfl, o3, b3⟩
      obtain ⟨a3, c3, rfl, _, _⟩ := o3.form
      have HH3 := hide ((unhide HO).belw b3 (Nat.le_refl _))
      have O3 := hide o3
      have z3 := b3.size
      have hbw := hb.trans (b3.mono hsz)
      clear o3
      go_wp2_with (at_builtin; refine wpList_append_row rfl (.tmp 19) (.tmp 22) rfl (v := u5) rfl ((unhide HH3).belw ((Below.refl _ _).alloc (Nat.le_refl _) _) (by omega)) _ rfl ((Blk.new w3 28 #[.slice a3 S.length c3] rfl).cell 0) ((unhide O3).alloc _) hsz (by simp; omega) (by omega) ?_; intro v6 w6 o6 g6 _)
      go_roundw
      case rel =>
       refine ⟨i + 1, by go_num, by omega, ?_, Below.stepS (hbw.alloc (by omega) _) g6 ((unhide HH3).belw ((Below.refl _ _).alloc (Nat.le_refl _) _) (by omega)).own (Nat.le_refl _) (by simp; omega)⟩
       show OwnS _ _ _ _
       rw [HH.out]
       exact o6
      case measure => simp only [intOf]; omega
    · have HH := Lib.hid (hmis hk)
      have hke : (t == k) = false := by rw [beq_eq_false_iff_ne]; exact hk
      clear hhit hmis hk
      go_wp2_with fail
      refine (unhide HWT).mono ?_
      rintro e w2 ⟨rfl, rfl⟩
      go_wp2_with fail
      go_roundw
      case rel => exact ⟨i + 1, by go_num, by omega, by show OwnS _ _ _ _; rw [HH.out]; exact ho.out, hb⟩
      case measure => simp only [intOf]; omega
  · have hie : i = W.length := by omega
    have hoo := ho.out
    rw [hie, List.take_length] at hoo
    have hSl := supps_len W k
    obtain ⟨hs, hm2, hV, hown, hapt⟩ := hoo.hdrs (by omega)
    have HSO := hide (sortV_own hV)
    have HM := Lib.hid hm2
    have hform := hV.form
    have HOWN := hide hown
    have HAPT := hide hapt
    rcases hform with ⟨rfl, hnil⟩ | ⟨g, cc, rfl, hBg, hg2⟩
    · have HN := Lib.hid (show supW F n m k = [] by rw [HSW.out, ← HM.out, hnil]; simp [distL, sortL, cmpct])
      clear hm2 hV hown hapt hoo ho hnil HM
      go_wp2_with fail
      refine (unhide HSO).mono ?_
      rintro e w3 ⟨rfl, ks, hpm, hsd, hV3, g3⟩
      have hbs : Below w1.heap.size w1 w3 := hb.trans (Below.grown (Below.refl _ _) g3 (Nat.le_refl _) (fun q hq => by cases hq) |>.mono hsz)
      clear hpm hsd hV3 g3 HSO
      go_wp2_with fail
      refine (compactNil_any 0 w3).mono ?_
      rintro e w4 ⟨rfl, rfl⟩
      go_wp2
      go_ret
      exact ⟨_, rfl, by rw [HN.out]; exact OwnS.nil _ _, hb1.trans (hbs.mono (by omega))⟩
    · clear hm2 hV hown hapt hoo ho
      go_wp2_with fail
      refine (unhide HSO).mono ?_
      rintro e w3 ⟨rfl, ks, hpm, hsd, hV3, g3⟩
      have hbs : Below w1.heap.size w1 w3 := hb.grown g3 hsz (fun q hq => by simp [Value.ownBlock] at hq; omega)
      have hkl : ks.length = hs.length := hpm.length_eq
      have hcap : ks.length ≤ cc := by
       rcases hV3.2.1.2 with ⟨e, _⟩ | ⟨g', cap', cur, e, _, _, h5, _⟩
       · cases e
       · injection e with _ _ e
         omega
      have hDm : (cmpct eqH ks).map Hdr.xs = distL (hs.map Hdr.xs) := by
       rw [cmpct_map]
       exact cmpct_sortL (hpm.map _) hsd
      rw [HM.out] at hDm
      rw [← hkl] at hV3
      have HCO := hide (compactV_any hV3 hcap)
      have hkl2 : hs.length = ks.length := hkl.symm
      rw [hkl2]
      have HDM := Lib.hid hDm
      have HPM := hide hpm
      clear hsd hV3 hcap hkl hkl2 HSO HM hDm hpm
      go_wp2_with fail
      refine (unhide HCO).mono ?_
      rintro e w4 ⟨mm, rfl, hV4, g4⟩
      have hfin := hV4.rows (unhide HOWN) (unhide HAPT) (unhide HPM) (cmpct_sub eqH ks)
      rw [HDM.out] at hfin
      have hbf : Below w1.heap.size w1 w4 := hbs.grown g4 hbs.size (fun q hq => by injection hq with hq; omega)
      have HFIN := hide hfin
      clear hfin hV4 g4 HCO
      go_wp2
      go_ret
      exact ⟨_, rfl, by rw [HSW.out]; exact (unhide HFIN).mono (by omega), hb1.trans (hbf.mono (by omega))⟩
theorem implSP_any (p d : Int) (a : Option Addr) (c : Nat) (xs : List Int) (ra : Option Addr) (rc : Nat) (m : List (List Int)) (k : Int) (w : World) (hx : Rd w a xs) (hm : RdS w ra m) (ed : I64 d) : Calls Tryz.prog 12 #[.agg #[.int .i64 p, .int .i64 d, .slice a xs.length c, .slice ra m.length rc], .int .i64 k] w (ResLLi w (spRes p d xs m k)) := by
 have hml := hm.len
 obtain ⟨W0, hW0⟩ : ∃ z, z = w.alloc (.cells #[.int .i64 p, .int .i64 d, .slice a xs.length c, .slice ra m.length rc] 36) := ⟨_, rfl⟩
 have b0 : Below w.heap.size w W0 := by rw [hW0]; exact (Below.refl _ _).alloc (Nat.le_refl _) _
 have k0 : Blk W0 w.heap.size 36 #[.int .i64 p, .int .i64 d, .slice a xs.length c, .slice ra m.length rc] := by rw [hW0]; exact Blk.new _ _ _ rfl
 have z0 : w.heap.size < W0.heap.size := k0.lt
 have HW := Lib.hid hW0
 have BA := hide (show ∀ W, Below W0.heap.size W0 W → Blk W w.heap.size 36 #[.int .i64 p, .int .i64 d, .slice a xs.length c, .slice ra m.length rc] from fun W h => k0.below h k0.lt)
 have hVC := implVC_any p d a c xs ra rc m W0 (hx.below b0) (hm.below b0) ed
 have hx0 := hx.below b0
 have hm0 := hm.below b0
 have f0 := k0.cell 0
 have f1 := k0.cell 1
 have f2 := k0.cell 2
 have f3 := k0.cell 3
 clear hW0
 unfold spRes
 cases hk : okC p d xs m with
 | false =>
  rw [hk] at hVC
  have HVC := hide hVC
  rw [if_neg (by simp)]
  clear hVC hk hx0 hm0 hx hm
  go_enter Tryz.func12, Tryz.ntmps12
  go_wp2_with fail
  rw [← HW.out]
  refine (unhide HVC).mono ?_
  rintro e w1 ⟨rfl, b1⟩
  go_wp2
  go_ret2
  exact ⟨_, rfl, OwnS.nil _ _, b0.trans (b1.mono (Nat.le_of_lt z0))⟩
 | true =>
  rw [hk] at hVC
  have HVC := hide hVC
  rw [if_pos rfl]
  obtain ⟨F, n, rfl, rfl, rfl, hC⟩ := okC_gc hk
  rw [fdR_eq, hC.hn]
  have hm1 := hC.m1
  have hlo := fun W (h : Below W0.heap.size W0 W) => lengthOf_any F.p F.k a F.poly.length c ra rc m W (hm0.below h) (by omega)
  rw [hC.hn] at hlo
  have HLO := hide hlo
  have HWI := hide (fun W => within_any k 1 n W)
  have HSU := hide (fun W (h : Below W0.heap.size W0 W) => supportsOf_any F a c ra rc m n k W (hx0.below h) (hm0.below h) hC)
  clear hVC hk hx0 hm0 hlo hx hm
  cases hin : inB k 1 n with
  | false =>
   rw [if_neg (by simp)]
   simp only [hin] at HWI
   clear hin
   go_enter Tryz.func12, Tryz.ntmps12
   go_wp2_with fail
   rw [← HW.out]
   refine (unhide HVC).mono ?_
   rintro e w1 ⟨rfl, b1⟩
   clear f0 f1 f2 f3
   have k1 := unhide BA _ b1
   have f0 := k1.cell 0
   have f1 := k1.cell 1
   have f2 := k1.cell 2
   have f3 := k1.cell 3
   go_wp2_with fail
   refine (unhide HLO _ b1).mono ?_
   rintro e w2 ⟨rfl, b2⟩
   go_wp2_with fail
   refine (unhide HWI _).mono ?_
   rintro e w3 ⟨rfl, rfl⟩
   go_wp2
   go_ret2
   exact ⟨_, rfl, OwnS.nil _ _, b0.trans ((b1.trans (b2.mono b1.size)).mono (Nat.le_of_lt z0))⟩
  | true =>
   rw [if_pos rfl]
   simp only [hin] at HWI
   clear hin
   go_enter Tryz.func12, Tryz.ntmps12
   go_wp2_with fail
   rw [← HW.out]
   refine (unhide HVC).mono ?_
   rintro e w1 ⟨rfl, b1⟩
   clear f0 f1 f2 f3
   have k1 := unhide BA _ b1
   have f0 := k1.cell 0
   have f1 := k1.cell 1
   have f2 := k1.cell 2
   have f3 := k1.cell 3
   go_wp2_with fail
   refine (unhide HLO _ b1).mono ?_
   rintro e w2 ⟨rfl, b2⟩
   go_wp2_with fail
   refine (unhide HWI _).mono ?_
   rintro e w3 ⟨rfl, rfl⟩
   have b2' := b1.trans (b2.mono b1.size)
   clear f0 f1 f2 f3
   have k2 := unhide BA _ b2'
   have f0 := k2.cell 0
   have f1 := k2.cell 1
   have f2 := k2.cell 2
   have f3 := k2.cell 3
   go_wp2_with fail
   refine (unhide HSU _ b2').mono ?_
   rintro e w4 ⟨v4, rfl, o4, b4⟩
   have z2 := b2'.size
   have o4' := o4.mono (show w.heap.size ≤ w2.heap.size by omega)
   clear o4
   go_wp2
   go_ret2
   exact ⟨_, rfl, o4', b0.trans ((b2'.trans (b4.mono z2)).mono (Nat.le_of_lt z0))⟩
end Go.Proofs.YtkiljcbejmiioaaGreat
