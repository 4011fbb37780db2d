/-
  Texts joined.
-/
import Derived.Test.YtkiljcbejmiioaaGreatLK6
import Derived.Test.YtkiljcbejmiioaaGreatLK7
import Derived.Test.YtkiljcbejmiioaaGreatLK8
set_option linter.unusedVariables false
set_option linter.unusedSimpArgs false
set_option maxRecDepth 100000
set_option maxHeartbeats 40000000
namespace Go.Proofs.YtkiljcbejmiioaaGreat
open Go.RowKit
attribute [local go_sem ↓] Go.wp_at_zero Go.wp_at_succ
def PR (w : World) (g : Nat) (p d : Int) (a : Option Addr) (c : Nat) (xs : List Int) : Prop :=
 w.cell? ⟨g, 0, none⟩ = some (.int .i64 p) ∧ w.cell? ⟨g, 1, none⟩ = some (.int .i64 d) ∧ w.cell? ⟨g, 2, none⟩ = some (.slice a xs.length c) ∧ Rd w a xs
theorem PR.lt {w : World} {g : Nat} {p d : Int} {a : Option Addr} {c : Nat} {xs : List Int} (h : PR w g p d a c xs) : g < w.heap.size := World.block_lt_of_cell? w _ h.1
theorem PR.below {w w' : World} {g : Nat} {p d : Int} {a : Option Addr} {c : Nat} {xs : List Int} (h : PR w g p d a c xs) (hb : Below w.heap.size w w') : PR w' g p d a c xs := by
 have hl := h.lt
 obtain ⟨h0, h1, h2, h3⟩ := h
 exact ⟨(hb.cell (p := ⟨g, 0, none⟩) hl).trans h0, (hb.cell (p := ⟨g, 1, none⟩) hl).trans h1, (hb.cell (p := ⟨g, 2, none⟩) hl).trans h2, h3.below hb⟩
theorem PR.pf {w : World} {g : Nat} {F : FD} {a : Option Addr} {c : Nat} (h : PR w g F.p F.k a c F.poly) : PF w g F := ⟨h.1, h.2.1, a, c, h.2.2.1, h.2.2.2⟩
theorem cap_exact' {b l : Int} : ∀ {k : Nat}, capTo b l k ≤ l → capTo b l k = b ^ k
 | 0, _ => by simp [capTo]
 | k + 1, hk => by
  by_cases hc : capTo b l k ≤ l
  · rw [capTo_go hc, cap_exact' hc, Int.pow_succ]
  · rw [capTo_stop hc (k + 1) (by omega)] at hk; exact absurd hk hc
theorem isPrime_any (p : Int) (w : World) : Calls Tryz.prog 62 #[.int .i64 p] w fun e w' => e = .returned (.bool ((facs p).length == 1)) ∧ Below w.heap.size w w' := by
 go_enter Tryz.func62, Tryz.ntmps62
 go_wp2_with fail
 refine (FactorsOf_any p w).mono ?_
 rintro e w1 ⟨v, rfl, o1, b1⟩
 obtain ⟨a1, c1, rfl, _, _⟩ := o1.form
 by_cases h : (facs p).length = 1
 · have hb : (((facs p).length : Int) == 1) = true := by rw [beq_iff_eq]; omega
   have hb2 : ((facs p).length == 1) = true := by rw [beq_iff_eq]; exact h
   clear h
   go_wp2
   go_ret
   exact ⟨ret_bool hb2.symm, b1⟩
 · have hb : (((facs p).length : Int) == 1) = false := by rw [beq_eq_false_iff_ne]; omega
   have hb2 : ((facs p).length == 1) = false := by rw [beq_eq_false_iff_ne]; exact h
   clear h
   go_wp2
   go_ret
   exact ⟨ret_bool hb2.symm, b1⟩
theorem all_no {p : Int} {xs : List Int} {k : Nat} (hk : k < xs.length) (h : inB (nth xs k) 0 (p - 1) = false) : xs.all (fun x => inB x 0 (p - 1)) = false := by
 rw [List.all_eq_false]
 exact ⟨_, nth_mem hk, by rw [h]; simp⟩
theorem all_yes {p : Int} {xs : List Int} (h : ∀ j, j < xs.length → inB (nth xs j) 0 (p - 1) = true) : xs.all (fun x => inB x 0 (p - 1)) = true := by
 rw [List.all_eq_true]
 intro x hx
 obtain ⟨i, hi, rfl⟩ := List.getElem_of_mem hx
 have := h i hi
 rwa [nth_lt hi] at this
theorem l03Ok_any (g : Nat) (p d : Int) (a : Option Addr) (c : Nat) (xs : List Int) (w : World) (hF : PR w g p d a c xs) : Calls Tryz.prog 99 #[.pointer (some ⟨g, 0, none⟩)] w fun e w' => e = .returned (.bool (okF p d xs)) ∧ Below w.heap.size w w' := by
 have hxl := hF.2.2.2.len
 have f0 := hF.1
 have f1 := hF.2.1
 have f2 := hF.2.2.1
 have hI1 := fun W => l00In_any p 2 64 W
 have hI2 := fun W => l00In_any d 1 6 W
 by_cases h1 : inB p 2 64 = true
 ·
  obtain ⟨p2, p64⟩ := inB_true.1 h1
  rw [h1] at hI1
  have HI1 := hide hI1
  by_cases h2 : inB d 1 6 = true
  ·
   obtain ⟨d1, d6⟩ := inB_true.1 h2
   rw [h2] at hI2
   have HI2 := hide hI2
   obtain ⟨D, rfl⟩ := Int.eq_ofNat_of_zero_le (show 0 ≤ d by omega)
   by_cases h3 : xs.length = D + 1
   ·
    have hlb : ((xs.length : Int) != (D : Int) + 1) = false := by rw [bne_eq_false_iff_eq]; omega
    have hlb2 : (xs.length != D + 1) = false := by rw [bne_eq_false_iff_eq]; omega
    obtain ⟨gb, ob, rfl, hgb, hc⟩ := hF.2.2.2.at_ (by omega)
    have hc1 := hc D (by omega)
    have hDl : D < xs.length := by omega
    obtain ⟨z, hz⟩ : ∃ z, z = nth xs D := ⟨_, rfl⟩
    rw [← hz] at hc1
    by_cases h4 : z = 1
    ·
     subst h4
     have hs := fun W => l03Split_any (p ^ D) W
     have hpb : p ^ D ≤ 1099511627776 := by
      have h1 := pow_base (show (0 : Int) ≤ p by omega) p64 D
      have h2 := pow_mono (p := 64) (by omega) (show D ≤ 6 by omega)
      have h3 : (64 : Int) ^ 6 = 68719476736 := by decide
      omega
     have hpw := fun W => l03Power_any p D W (by omega) (by omega) (by omega) hpb
     obtain ⟨s, hsp⟩ : ∃ s, s = split (p ^ D) := ⟨_, rfl⟩
     rw [← hsp] at hs
     obtain ⟨s1, s2⟩ := s
     obtain ⟨q, hq⟩ : ∃ q, q = p ^ D := ⟨_, rfl⟩
     rw [← hq] at hs hpw hsp
     have HS := hide hs
     have HP := hide hpw
     have HC := hide hc
     clear hs hpw hc
     by_cases h5 : s1 = p
     ·
      have hgood : okF p D xs = (xs.all (fun x => inB x 0 (p - 1)) && irr xs p) := by
       rw [okF, h1, h2, Int.toNat_natCast, ← hz, ← hq, ← hsp]
       simp [h3, h5]
      have hpow : p ^ D ≤ 64 := by
       have := (okF_prime p2 p64 d1 d6).1 (by rw [Int.toNat_natCast, ← hq, ← hsp]; exact h5)
       rw [Int.toNat_natCast] at this
       rw [← cap_exact' this.2]; exact this.2
      have HG := Lib.hid hgood
      have HPOW := Lib.hid hpow
      have H3 := Lib.hid h3
      have h5s := h5.symm
      clear hgood hpow h5 hsp hq hz h1 h2 h3
      subst h5s
      go_enter Tryz.func99, Tryz.ntmps99
      go_upto_region 1 with fail
      go_quiet (((first | (go_at_call_of 58 (Value.int IntKind.i64 2); exact Calls.quiet_of_same ((unhide HI1 _).mono fun _ _ h => ⟨h.1, h.2.symm⟩)) | (go_at_call 58; exact Calls.quiet_of_same ((unhide HI2 _).mono fun _ _ h => ⟨h.1, h.2.symm⟩)))))
      obtain ⟨w1, hw1⟩ : ∃ z, z = w.drewN nq := ⟨_, rfl⟩
      have F1 : PR w1 g p D (some ⟨gb, ob, none⟩) c xs := by rw [hw1]; exact hF.below (Below.drewn _)
      have b1 : Below w.heap.size w w1 := by rw [hw1]; exact Below.drewn _
      rw [← hw1]
      clear hw1 f0 f1 f2 hc1
      have f0 := F1.1
      have f1 := F1.2.1
      go_upto_region 3 with fail
      go_quiet ((go_at_call 115; exact Calls.quiet_of_same ((unhide HP _).mono fun _ _ h => ⟨h.1, h.2.symm⟩)))
      obtain ⟨w2, hw2⟩ : ∃ z, z = w1.drewN nq := ⟨_, rfl⟩
      have F2 : PR w2 g p D (some ⟨gb, ob, none⟩) c xs := by rw [hw2]; exact F1.below (Below.drewn _)
      have b2 : Below w.heap.size w w2 := by rw [hw2]; exact b1.trans ((Below.drewn (a := w1) _).mono b1.size)
      rw [← hw2]
      clear hw2 f0 f1 F1 b1
      have f0 := F2.1
      have f1 := F2.2.1
      have f2 := F2.2.2.1
      go_wp2_with fail
      refine (unhide HS _).mono ?_
      rintro e w3 ⟨rfl, rfl⟩
      have hx2 := F2.2.2.2
      have hIR := fun x => l00In_any x 0 (p - 1) w2
      have HIR := hide hIR
      clear hIR hlb hlb2
      go_wp2_with fail
      go_loop [6] (fun i => ∃ k : Nat, i = .int .i64 k ∧ k ≤ xs.length ∧ Hid (∀ j, j < k → inB (nth xs j) 0 (p - 1) = true)) (fun i => xs.length - (intOf i).toNat)
      case atStart => exact ⟨0, rfl, Nat.zero_le _, fun j hj => by omega⟩
      case round =>
       obtain ⟨k, rfl, hk, hq⟩ := hrel
       by_cases hkl : k < xs.length
       · obtain ⟨gc, oc, ec, _, hcc⟩ := hx2.at_ (by omega)
         injection ec with ec
         injection ec with ec1 ec2 _
         subst ec1
         subst ec2
         have h1 := hcc k hkl
         obtain ⟨r, hr⟩ : ∃ r, inB (nth xs k) 0 (p - 1) = r := ⟨_, rfl⟩
         have hcl := unhide HIR (nth xs k)
         rw [hr] at hcl
         have HR := Lib.hid hr
         obtain ⟨y, hy⟩ : ∃ y, y = nth xs k := ⟨_, rfl⟩
         rw [← hy] at h1 hcl
         have HCL := hide hcl
         clear hcc hr hcl hy
         go_wp2_with fail
         refine (unhide HCL).mono ?_
         rintro e w4 ⟨rfl, rfl⟩
         cases r
         · have HN := Lib.hid (show okF p D xs = false by rw [HG.out, all_no hkl HR.out]; rfl)
           go_wp2
           go_ret
           exact ⟨ret_bool (by rw [HN.out]), b2⟩
         · go_wp2
           go_round
           case rel =>
            refine ⟨k + 1, by go_num, by omega, fun j hj => ?_⟩
            rcases Nat.lt_succ_iff_lt_or_eq.1 hj with h | rfl
            · exact hq.out j h
            · exact HR.out
           case measure => simp [intOf]; omega
       · have hall : ∀ j, j < xs.length → inB (nth xs j) 0 (p - 1) = true := fun j hj => hq.out j (by omega)
         have hir := l03Irreducible_any (some ⟨gb, ob, none⟩) c xs p w2 hx2 (by omega) (by omega) (fun x hx => by
          obtain ⟨i, hi, rfl⟩ := List.getElem_of_mem hx
          have := inB_true.1 (hall i hi)
          rw [nth_lt hi] at this
          omega) (by omega) (by have h3 := H3.out; rw [h3, Nat.add_sub_cancel]; exact HPOW.out)
         have HIRR := hide hir
         have HALL := Lib.hid (show okF p D xs = irr xs p by rw [HG.out, all_yes hall]; rfl)
         clear hir hall
         go_wp2_with fail
         refine (unhide HIRR).mono ?_
         rintro e w4 ⟨rfl, b4⟩
         go_wp2
         go_ret
         exact ⟨ret_bool (by rw [HALL.out]), b2.trans (b4.mono b2.size)⟩
     ·
      have HN := Lib.hid (show okF p D xs = false by
       rw [okF, h1, h2, Int.toNat_natCast, ← hz, ← hq, ← hsp]
       simp [h5])
      have hbn : (s1 != p) = true := by rw [bne_iff_ne]; exact h5
      clear h5 hsp hq hz h1 h2 h3
      go_enter Tryz.func99, Tryz.ntmps99
      go_upto_region 1 with fail
      go_quiet (((first | (go_at_call_of 58 (Value.int IntKind.i64 2); exact Calls.quiet_of_same ((unhide HI1 _).mono fun _ _ h => ⟨h.1, h.2.symm⟩)) | (go_at_call 58; exact Calls.quiet_of_same ((unhide HI2 _).mono fun _ _ h => ⟨h.1, h.2.symm⟩)))))
      obtain ⟨w1, hw1⟩ : ∃ z, z = w.drewN nq := ⟨_, rfl⟩
      have F1 : PR w1 g p D (some ⟨gb, ob, none⟩) c xs := by rw [hw1]; exact hF.below (Below.drewn _)
      have b1 : Below w.heap.size w w1 := by rw [hw1]; exact Below.drewn _
      rw [← hw1]
      clear hw1 f0 f1 f2 hc1
      have f0 := F1.1
      have f1 := F1.2.1
      go_upto_region 3 with fail
      go_quiet ((go_at_call 115; exact Calls.quiet_of_same ((unhide HP _).mono fun _ _ h => ⟨h.1, h.2.symm⟩)))
      obtain ⟨w2, hw2⟩ : ∃ z, z = w1.drewN nq := ⟨_, rfl⟩
      have F2 : PR w2 g p D (some ⟨gb, ob, none⟩) c xs := by rw [hw2]; exact F1.below (Below.drewn _)
      have b2 : Below w.heap.size w w2 := by rw [hw2]; exact b1.trans ((Below.drewn (a := w1) _).mono b1.size)
      rw [← hw2]
      clear hw2 f0 f1 F1 b1
      have f0 := F2.1
      have f1 := F2.2.1
      have f2 := F2.2.2.1
      go_wp2_with fail
      refine (unhide HS _).mono ?_
      rintro e w3 ⟨rfl, rfl⟩
      go_wp2
      go_ret
      exact ⟨ret_bool (by rw [HN.out]), b2⟩
    ·
     have HN := Lib.hid (show okF p D xs = false by
      rw [okF, h1, h2, Int.toNat_natCast, ← hz]
      simp [h4])
     have hzb : (z != 1) = true := by rw [bne_iff_ne]; exact h4
     clear h4 hz h1 h2 h3 hc
     go_enter Tryz.func99, Tryz.ntmps99
     go_upto_region 1 with fail
     go_quiet (((first | (go_at_call_of 58 (Value.int IntKind.i64 2); exact Calls.quiet_of_same ((unhide HI1 _).mono fun _ _ h => ⟨h.1, h.2.symm⟩)) | (go_at_call 58; exact Calls.quiet_of_same ((unhide HI2 _).mono fun _ _ h => ⟨h.1, h.2.symm⟩)))))
     go_wp2
     go_ret
     exact ⟨ret_bool (by rw [HN.out]), Below.drewn _⟩
   ·
    have HN := Lib.hid (show okF p D xs = false by
     rw [okF, h1, h2, show ((xs.length : Int) == (D : Int) + 1) = false by rw [beq_eq_false_iff_ne]; omega]
     rfl)
    have hlb : ((xs.length : Int) != (D : Int) + 1) = true := by rw [bne_iff_ne]; omega
    have hlb2 : (xs.length != D + 1) = true := by rw [bne_iff_ne]; exact h3
    clear h1 h2 h3
    go_enter Tryz.func99, Tryz.ntmps99
    go_upto_region 1 with fail
    go_quiet (((first | (go_at_call_of 58 (Value.int IntKind.i64 2); exact Calls.quiet_of_same ((unhide HI1 _).mono fun _ _ h => ⟨h.1, h.2.symm⟩)) | (go_at_call 58; exact Calls.quiet_of_same ((unhide HI2 _).mono fun _ _ h => ⟨h.1, h.2.symm⟩)))))
    go_wp2
    go_ret
    exact ⟨ret_bool (by rw [HN.out]), Below.drewn _⟩
  ·
   have h2' : inB d 1 6 = false := by simpa using h2
   have HN := Lib.hid (show okF p d xs = false by rw [okF, h1, h2']; rfl)
   rw [h2'] at hI2
   have HI2 := hide hI2
   clear h1 h2 h2'
   go_enter Tryz.func99, Tryz.ntmps99
   go_upto_region 1 with fail
   go_quiet (((first | (go_at_call_of 58 (Value.int IntKind.i64 2); exact Calls.quiet_of_same ((unhide HI1 _).mono fun _ _ h => ⟨h.1, h.2.symm⟩)) | (go_at_call 58; exact Calls.quiet_of_same ((unhide HI2 _).mono fun _ _ h => ⟨h.1, h.2.symm⟩)))))
   go_wp2
   go_ret
   exact ⟨ret_bool (by rw [HN.out]), Below.drewn _⟩
 ·
  have h1' : inB p 2 64 = false := by simpa using h1
  have HN := Lib.hid (show okF p d xs = false by rw [okF, h1']; rfl)
  rw [h1'] at hI1
  have HI1 := hide hI1
  have HI2 := hide hI2
  clear h1 h1'
  go_enter Tryz.func99, Tryz.ntmps99
  go_upto_region 1 with fail
  go_quiet (((first | (go_at_call_of 58 (Value.int IntKind.i64 2); exact Calls.quiet_of_same ((unhide HI1 _).mono fun _ _ h => ⟨h.1, h.2.symm⟩)) | (go_at_call 58; exact Calls.quiet_of_same ((unhide HI2 _).mono fun _ _ h => ⟨h.1, h.2.symm⟩)))))
  go_wp2
  go_ret
  exact ⟨ret_bool (by rw [HN.out]), Below.drewn _⟩
theorem validField_any (p d : Int) (a : Option Addr) (c : Nat) (xs : List Int) (w : World) (hx : Rd w a xs) (ed : I64 d) : Calls Tryz.prog 25 #[.agg #[.int .i64 p, .int .i64 d, .slice a xs.length c]] w fun e w' => e = .returned (.bool (okF p d xs)) ∧ Below w.heap.size w w' := by
 have hxl := hx.len
 have ed2 := ed.2
 obtain ⟨W0, hHW⟩ : ∃ z, z = w.alloc (.cells #[.int .i64 p, .int .i64 d, .slice a xs.length c] 30) := ⟨_, rfl⟩
 have b0 : Below w.heap.size w W0 := by rw [hHW]; exact (Below.refl _ _).alloc (Nat.le_refl _) _
 have kF : Blk W0 w.heap.size 30 #[.int .i64 p, .int .i64 d, .slice a xs.length c] := by rw [hHW]; exact Blk.new _ _ _ rfl
 have skF : w.heap.size < W0.heap.size := kF.lt
 have HW := Lib.hid hHW
 clear hHW
 have hx0 := hx.below b0
 rw [← okI_eq]
 obtain ⟨pr, hpr⟩ : ∃ pr, pr = ((facs p).length == 1) := ⟨_, rfl⟩
 have hP := isPrime_any p W0
 rw [← hpr] at hP
 have HPR := Lib.hid hpr
 cases pr with
 | false =>
  have HN := Lib.hid (show okI p d xs = false by rw [okI, ← hpr]; rfl)
  have HP := hide hP
  clear hP hpr
  go_enter Tryz.func25, Tryz.ntmps25
  go_wp2_with fail
  rw [← HW.out]
  refine (unhide HP).mono ?_
  rintro e w1 ⟨rfl, b1⟩
  have hb1 := b0.trans (b1.mono (Nat.le_of_lt skF))
  have k1 := kF.below b1 kF.lt
  have hx1 := hx0.below b1
  go_wp2
  go_ret
  exact ⟨ret_bool (by rw [HN.out]), hb1⟩
 | true =>
  obtain ⟨p2, p6⟩ := facs_prime (by have := hpr.symm; rwa [beq_iff_eq] at this)
  have HP := hide hP
  clear hP
  by_cases h1 : 1 ≤ d
  ·
   obtain ⟨D, rfl⟩ := Int.eq_ofNat_of_zero_le (show 0 ≤ d by omega)
   have hU := fun W => powerUpTo_any p D 64 W (by omega) (by omega) (by omega) (by omega) (by omega)
   rw [Int.toNat_natCast] at hU
   obtain ⟨q, hq⟩ : ∃ q, q = capTo p 64 D := ⟨_, rfl⟩
   rw [← hq] at hU
   have HU := hide hU
   clear hU
   by_cases h2 : q ≤ 64
   ·
    obtain ⟨p64, d6⟩ := cap_small (p := p) (d := D) p2 (by omega) (by rw [← hq]; exact h2)
    have hpow := cap_exact' (b := p) (l := 64) (k := D) (by rw [← hq]; exact h2)
    have hnc : ¬ 64 < q := by omega
    by_cases h3 : xs.length = D + 1
    ·
     have hlb : ((xs.length : Int) != (D : Int) + 1) = false := by rw [bne_eq_false_iff_eq]; omega
     have hDl : D < xs.length := by omega
     obtain ⟨z, hz⟩ : ∃ z, z = nth xs D := ⟨_, rfl⟩
     by_cases h4 : z = 1
     ·
      subst h4
      have hall0 : okI p D xs = (xs.all (fun x => inB x 0 (p - 1)) && irr xs p) := by
       rw [okI, ← hpr, Int.toNat_natCast, ← hz, ← hq]
       simp [h3, h2, h1]
      have HG := Lib.hid hall0
      have HPOW := Lib.hid (show p ^ D ≤ 64 by rw [← hpow, ← hq]; exact h2)
      have H3 := Lib.hid h3
      clear hall0 hpr hq hpow
      have hcc : ∀ W, Rd W a xs → ∃ gb ob, a = some ⟨gb, ob, none⟩ ∧ W.cell? ⟨gb, ob + D, none⟩ = some (.int .i64 1) := fun W hW => by
       obtain ⟨gb, ob, e, _, hc⟩ := hW.at_ (by omega)
       exact ⟨gb, ob, e, by rw [hz]; exact hc D hDl⟩
      have HCC := hide hcc
      clear hcc hz h3
      go_enter Tryz.func25, Tryz.ntmps25
      go_wp2_with fail
      rw [← HW.out]
      refine (unhide HP).mono ?_
      rintro e w1 ⟨rfl, b1⟩
      have hb1 := b0.trans (b1.mono (Nat.le_of_lt skF))
      have k1 := kF.below b1 kF.lt
      have hx1 := hx0.below b1
      have f0 := k1.cell 0
      have f1 := k1.cell 1
      have f2 := k1.cell 2
      go_wp2_with fail
      refine (unhide HU _).mono ?_
      rintro e w2 ⟨rfl, rfl⟩
      obtain ⟨gb, ob, rfl, hc1⟩ := unhide HCC w1 hx1
      go_upto_region 3 with fail
      go_quiet (((go_at_call 30; exact Calls.quiet_of_same ((size_any _ _ _ _).mono fun _ _ h => ⟨h.1, h.2.symm⟩))))
      obtain ⟨w2, hw2⟩ : ∃ y, y = w1.drewN nq := ⟨_, rfl⟩
      have bq : Below w1.heap.size w1 w2 := by rw [hw2]; exact Below.drewn _
      rw [← hw2]
      have hb2 := hb1.trans (bq.mono hb1.size)
      have k2 := k1.below bq k1.lt
      have hx2 := hx1.below bq
      clear hw2 f0 f1 f2 hc1
      have f0 := k2.cell 0
      have f1 := k2.cell 1
      have f2 := k2.cell 2
      have hIR := fun x => within_any x 0 (p - 1) w2
      have HIR := hide hIR
      clear hIR hlb
      go_wp2_with fail
      go_loop [41] (fun i => ∃ k : Nat, i = .int .i64 k ∧ k ≤ xs.length ∧ Hid (∀ j, j < k → inB (nth xs j) 0 (p - 1) = true)) (fun i => xs.length - (intOf i).toNat)
      case atStart => exact ⟨0, rfl, Nat.zero_le _, fun j hj => by omega⟩
      case round =>
       obtain ⟨k, rfl, hk, hqq⟩ := hrel
       by_cases hkl : k < xs.length
       · obtain ⟨gc, oc, ec, _, hcc⟩ := hx2.at_ (by omega)
         injection ec with ec
         injection ec with ec1 ec2 _
         subst ec1
         subst ec2
         have h1 := hcc k hkl
         obtain ⟨r, hr⟩ : ∃ r, inB (nth xs k) 0 (p - 1) = r := ⟨_, rfl⟩
         have hcl := unhide HIR (nth xs k)
         rw [hr] at hcl
         have HR := Lib.hid hr
         obtain ⟨y, hy⟩ : ∃ y, y = nth xs k := ⟨_, rfl⟩
         rw [← hy] at h1 hcl
         have HCL := hide hcl
         clear hcc hr hcl hy
         go_wp2_with fail
         refine (unhide HCL).mono ?_
         rintro e w4 ⟨rfl, rfl⟩
         cases r
         · have HN := Lib.hid (show okI p D xs = false by rw [HG.out, all_no hkl HR.out]; rfl)
           go_wp2
           go_ret
           exact ⟨ret_bool (by rw [HN.out]), hb2⟩
         · go_wp2
           go_round
           case rel =>
            refine ⟨k + 1, by go_num, by omega, fun j hj => ?_⟩
            rcases Nat.lt_succ_iff_lt_or_eq.1 hj with h | rfl
            · exact hqq.out j h
            · exact HR.out
           case measure => simp [intOf]; omega
       · have hall : ∀ j, j < xs.length → inB (nth xs j) 0 (p - 1) = true := fun j hj => hqq.out j (by omega)
         have hir := irreducible_any (some ⟨gb, ob, none⟩) c xs p w2 hx2 (by omega) (by omega) (fun x hx => by
          obtain ⟨i, hi, rfl⟩ := List.getElem_of_mem hx
          have := inB_true.1 (hall i hi)
          rw [nth_lt hi] at this
          omega) (by omega) (by have h3 := H3.out; rw [h3, Nat.add_sub_cancel]; exact HPOW.out)
         have HIRR := hide hir
         have HALL := Lib.hid (show okI p D xs = irr xs p by rw [HG.out, all_yes hall]; rfl)
         clear hir hall
         go_wp2_with fail
         refine (unhide HIRR).mono ?_
         rintro e w4 ⟨rfl, b4⟩
         go_wp2
         go_ret
         exact ⟨ret_bool (by rw [HALL.out]), hb2.trans (b4.mono hb2.size)⟩
     ·
      have HN := Lib.hid (show okI p D xs = false by
       rw [okI, Int.toNat_natCast, ← hz]
       simp [h4])
      have hzb : (z != 1) = true := by rw [bne_iff_ne]; exact h4
      have hcc : ∀ W, Rd W a xs → ∃ gb ob, a = some ⟨gb, ob, none⟩ ∧ W.cell? ⟨gb, ob + D, none⟩ = some (.int .i64 z) := fun W hW => by
       obtain ⟨gb, ob, e, _, hc⟩ := hW.at_ (by omega)
       exact ⟨gb, ob, e, by rw [hz]; exact hc D hDl⟩
      have HCC := hide hcc
      clear hcc hz h3 h4 hpr hq hpow
      go_enter Tryz.func25, Tryz.ntmps25
      go_wp2_with fail
      rw [← HW.out]
      refine (unhide HP).mono ?_
      rintro e w1 ⟨rfl, b1⟩
      have hb1 := b0.trans (b1.mono (Nat.le_of_lt skF))
      have k1 := kF.below b1 kF.lt
      have hx1 := hx0.below b1
      have f0 := k1.cell 0
      have f1 := k1.cell 1
      have f2 := k1.cell 2
      go_wp2_with fail
      refine (unhide HU _).mono ?_
      rintro e w2 ⟨rfl, rfl⟩
      obtain ⟨gb, ob, rfl, hc1⟩ := unhide HCC w1 hx1
      go_upto_region 3 with fail
      go_quiet (((go_at_call 30; exact Calls.quiet_of_same ((size_any _ _ _ _).mono fun _ _ h => ⟨h.1, h.2.symm⟩))))
      go_wp2
      go_ret
      exact ⟨ret_bool (by rw [HN.out]), hb1.trans ((Below.drewn (a := w1) _).mono hb1.size)⟩
    ·
     have HN := Lib.hid (show okI p D xs = false by
      rw [okI, show ((xs.length : Int) == (D : Int) + 1) = false by rw [beq_eq_false_iff_ne]; omega]
      simp)
     have hlb : ((xs.length : Int) != (D : Int) + 1) = true := by rw [bne_iff_ne]; omega
     clear h3 hpr hq hpow
     go_enter Tryz.func25, Tryz.ntmps25
     go_wp2_with fail
     rw [← HW.out]
     refine (unhide HP).mono ?_
     rintro e w1 ⟨rfl, b1⟩
     have hb1 := b0.trans (b1.mono (Nat.le_of_lt skF))
     have k1 := kF.below b1 kF.lt
     have hx1 := hx0.below b1
     have f0 := k1.cell 0
     have f1 := k1.cell 1
     have f2 := k1.cell 2
     go_wp2_with fail
     refine (unhide HU _).mono ?_
     rintro e w2 ⟨rfl, rfl⟩
     go_upto_region 3 with fail
     go_quiet (((go_at_call 30; exact Calls.quiet_of_same ((size_any _ _ _ _).mono fun _ _ h => ⟨h.1, h.2.symm⟩))))
     go_wp2
     go_ret
     exact ⟨ret_bool (by rw [HN.out]), hb1.trans ((Below.drewn (a := w1) _).mono hb1.size)⟩
   ·
    have HN := Lib.hid (show okI p D xs = false by
     rw [okI, Int.toNat_natCast, ← hq]
     simp [h2])
    have hnc : 64 < q := by omega
    clear h2 hpr hq
    go_enter Tryz.func25, Tryz.ntmps25
    go_wp2_with fail
    rw [← HW.out]
    refine (unhide HP).mono ?_
    rintro e w1 ⟨rfl, b1⟩
    have hb1 := b0.trans (b1.mono (Nat.le_of_lt skF))
    have k1 := kF.below b1 kF.lt
    have hx1 := hx0.below b1
    have f0 := k1.cell 0
    have f1 := k1.cell 1
    have f2 := k1.cell 2
    go_wp2_with fail
    refine (unhide HU _).mono ?_
    rintro e w2 ⟨rfl, rfl⟩
    go_wp2
    go_ret
    exact ⟨ret_bool (by rw [HN.out]), hb1⟩
  ·
   have HN := Lib.hid (show okI p d xs = false by rw [okI]; simp [h1])
   clear hpr
   go_enter Tryz.func25, Tryz.ntmps25
   go_wp2_with fail
   rw [← HW.out]
   refine (unhide HP).mono ?_
   rintro e w1 ⟨rfl, b1⟩
   have hb1 := b0.trans (b1.mono (Nat.le_of_lt skF))
   have k1 := kF.below b1 kF.lt
   have hx1 := hx0.below b1
   have f0 := k1.cell 0
   have f1 := k1.cell 1
   have f2 := k1.cell 2
   go_wp2
   go_ret
   exact ⟨ret_bool (by rw [HN.out]), hb1⟩
end Go.Proofs.YtkiljcbejmiioaaGreat
