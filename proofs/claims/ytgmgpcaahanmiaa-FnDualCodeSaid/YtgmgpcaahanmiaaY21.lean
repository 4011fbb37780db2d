/-
  Texts joined.
-/
import Derived.Test.YtgmgpcaahanmiaaY1
import Derived.Test.YtgmgpcaahanmiaaY4
import Derived.Test.YtgmgpcaahanmiaaY6
import Derived.Test.YtgmgpcaahanmiaaY11
import Derived.Test.YtgmgpcaahanmiaaY12
import Derived.Test.YtgmgpcaahanmiaaY14
import Derived.Test.YtgmgpcaahanmiaaY17
import Derived.Test.YtgmgpcaahanmiaaY19
set_option linter.unusedVariables false
set_option linter.unusedSimpArgs false
set_option maxRecDepth 100000
set_option maxHeartbeats 40000000
namespace Go.Proofs.Ytgmgpcaahanmiaa
open Go.RowKit
attribute [local go_sem ↓] Go.wp_at_zero Go.wp_at_succ
noncomputable def wtsRes (p d : Int) (xs : List Int) (m : List (List Int)) : List Int × Int := if okC p d xs m = true then (wts (fdR p d xs) (nthL m 0).length m, 0) else ([], 1)
def distC (F : FD) (n : Nat) (m : List (List Int)) : Nat := leastD (wts F n m)
noncomputable def distRes (p d : Int) (xs : List Int) (m : List (List Int)) : Int × Int := if okC p d xs m = true then ((distC (fdR p d xs) (nthL m 0).length m : Int), 0) else (0, 1)
def ResI (w : World) (r : Int × Int) (e : Ending) (w' : World) : Prop := e = .returned (.tuple #[.int .i64 r.1, .int .i64 r.2]) ∧ Below w.heap.size w w'
theorem wts_len (F : FD) (n : Nat) (m : List (List Int)) : (wts F n m).length = n + 1 := cntW_len _ _ _
theorem GC.some_wt {F : FD} {n : Nat} {m : List (List Int)} (h : GC F n m) : ∃ d : Nat, 1 ≤ d ∧ d ≤ n ∧ nth (wts F n m) d ≠ 0 := by
 obtain ⟨j, h1, h2, h3⟩ := h.some_word
 refine ⟨_, h2, h3, ?_⟩
 have := cntW_pos (words := wordsTo F n m m.length) (n := n) (k := (wordsTo F n m m.length).length) (j := j) (by rw [wordsTo_len]; exact h1) h3
 rw [wts]
 omega
theorem implWT_any (p d : Int) (a : Option Addr) (c : Nat) (xs : List Int) (ra : Option Addr) (rc : Nat) (m : List (List Int)) (w : World) (hx : Rd w a xs) (hm : RdS w ra m) (ed : I64 d) : Calls Try.prog 33 #[.agg #[.int .i64 p, .int .i64 d, .slice a xs.length c, .slice ra m.length rc]] w (ResL w (wtsRes p d xs m)) := by
 have hml := hm.len
 generalize hR : wtsRes p d xs m = r
 obtain ⟨W0, hHW⟩ : ∃ z, z = w.alloc (.cells #[.int .i64 p, .int .i64 d, .slice a xs.length c, .slice ra m.length rc] 37) := ⟨_, rfl⟩
 have b0 : Below w.heap.size w W0 := by rw [hHW]; exact (Below.refl _ _).alloc (Nat.le_refl _) _
 have k0 : Blk W0 w.heap.size 37 #[.int .i64 p, .int .i64 d, .slice a xs.length c, .slice ra m.length rc] := by rw [hHW]; exact Blk.new _ _ _ rfl
 have sk0 : w.heap.size < W0.heap.size := k0.lt
 have HW := Lib.hid hHW
 clear hHW
 have hV := implVC_any p d a c xs ra rc m W0 (hx.below b0) (hm.below b0) ed
 cases hk : okC p d xs m with
 | false =>
  have HN := Lib.hid (show r = ([], 1) by rw [← hR, wtsRes, hk]; rfl)
  rw [hk] at hV
  have HV := hide hV
  clear hV hk hR
  have f0 := k0.cell 0
  have f1 := k0.cell 1
  have f2 := k0.cell 2
  have f3 := k0.cell 3
  go_enter Try.func33, Try.ntmps33
  go_upto_region 1 with fail
  rw [← HW.out]
  go_wp2_with fail
  refine (unhide HV).mono ?_
  rintro e w1 ⟨rfl, b1⟩
  have k1 := k0.below b1 k0.lt
  clear f0 f1 f2 f3
  have f0 := k1.cell 0
  have f1 := k1.cell 1
  have f2 := k1.cell 2
  have f3 := k1.cell 3
  have bb1 := b0.trans (b1.mono (Nat.le_of_lt sk0))
  go_wp2
  go_ret2
  rw [HN.out]
  exact ⟨_, rfl, Own.nil _ _, bb1⟩
 | true =>
  obtain ⟨F, n, rfl, rfl, rfl, hC⟩ := okC_gc hk
  have ok := hC.good.ok
  obtain ⟨n2, n64⟩ := ok.n_bd
  have hm1 := hC.m1
  have hm0 : 0 < m.length := by omega
  have hm8 := hC.m8
  have hn1 := hC.n1
  have hn32 := hC.n32
  rw [hk] at hV
  have HV := hide hV
  have hRR : r = (wts F n m, 0) := by rw [← hR, wtsRes, hk, fdR_eq, hC.hn]; rfl
  clear hV hk hR
  have hW := fun W (h : Below W0.heap.size W0 W) => weightsOf_any F a c ra rc m n W ((hx.below b0).below h) ((hm.below b0).below h) hC
  have HWW := hide hW
  have HRR := Lib.hid hRR
  clear hW hRR hC
  have f0 := k0.cell 0
  have f1 := k0.cell 1
  have f2 := k0.cell 2
  have f3 := k0.cell 3
  go_enter Try.func33, Try.ntmps33
  go_upto_region 1 with fail
  rw [← HW.out]
  go_wp2_with fail
  refine (unhide HV).mono ?_
  rintro e w1 ⟨rfl, b1⟩
  have k1 := k0.below b1 k0.lt
  clear f0 f1 f2 f3
  have f0 := k1.cell 0
  have f1 := k1.cell 1
  have f2 := k1.cell 2
  have f3 := k1.cell 3
  have bb1 := b0.trans (b1.mono (Nat.le_of_lt sk0))
  go_wp2_with fail
  refine (unhide HWW w1 b1).mono ?_
  rintro e w2 ⟨v, rfl, o2, b2⟩
  go_wp2
  go_ret2
  rw [HRR.out]
  exact ⟨_, rfl, o2.mono bb1.size, bb1.trans (b2.mono bb1.size)⟩
theorem specDI_any (p d : Int) (a : Option Addr) (c : Nat) (xs : List Int) (ra : Option Addr) (rc : Nat) (m : List (List Int)) (w : World) (hx : Rd w a xs) (hm : RdS w ra m) : Calls Try.prog 47 #[.agg #[.int .i64 p, .int .i64 d, .slice a xs.length c, .slice ra m.length rc]] w (ResI w (distRes p d xs m)) := by
 have hml := hm.len
 generalize hR : distRes p d xs m = r
 obtain ⟨W0, hHW⟩ : ∃ z, z = w.alloc (.cells #[.int .i64 p, .int .i64 d, .slice a xs.length c, .slice ra m.length rc] 37) := ⟨_, rfl⟩
 have b0 : Below w.heap.size w W0 := by rw [hHW]; exact (Below.refl _ _).alloc (Nat.le_refl _) _
 have k0 : Blk W0 w.heap.size 37 #[.int .i64 p, .int .i64 d, .slice a xs.length c, .slice ra m.length rc] := by rw [hHW]; exact Blk.new _ _ _ rfl
 have sk0 : w.heap.size < W0.heap.size := k0.lt
 have HW := Lib.hid hHW
 clear hHW
 have hC0 : PC W0 w.heap.size p d a c xs ra rc m := ⟨⟨k0.cell 0, k0.cell 1, k0.cell 2, hx.below b0⟩, k0.cell 3, hm.below b0⟩
 have hV := l18Ok_any w.heap.size p d a c xs ra rc m W0 hC0
 cases hk : okC p d xs m with
 | false =>
  have HN := Lib.hid (show r = (0, 1) by rw [← hR, distRes, hk]; rfl)
  rw [hk] at hV
  have HV := hide hV
  clear hV hk hR hC0
  have f0 := k0.cell 0
  have f1 := k0.cell 1
  have f2 := k0.cell 2
  have f3 := k0.cell 3
  go_enter Try.func47, Try.ntmps47
  go_upto_region 1 with fail
  rw [← HW.out]
  go_wp2_with fail
  refine (unhide HV).mono ?_
  rintro e w1 ⟨rfl, b1⟩
  have k1 := k0.below b1 k0.lt
  clear f0 f1 f2 f3
  have f0 := k1.cell 0
  have f1 := k1.cell 1
  have f2 := k1.cell 2
  have f3 := k1.cell 3
  have bb1 := b0.trans (b1.mono (Nat.le_of_lt sk0))
  go_wp2
  go_ret2
  rw [HN.out]
  exact ⟨rfl, bb1⟩
 | true =>
  obtain ⟨F, n, rfl, rfl, rfl, hC⟩ := okC_gc hk
  have ok := hC.good.ok
  obtain ⟨n2, n64⟩ := ok.n_bd
  have hm1 := hC.m1
  have hm0 : 0 < m.length := by omega
  have hm8 := hC.m8
  have hn1 := hC.n1
  have hn32 := hC.n32
  rw [hk] at hV
  have HV := hide hV
  have hRR : r = ((distC F n m : Int), 0) := by rw [← hR, distRes, hk, fdR_eq, hC.hn]; rfl
  clear hV hk hR
  have hW := fun W (h : Below W0.heap.size W0 W) => l18Weights_any w.heap.size F ra rc m n W (hC0.below h).1.pf (hC0.below h).2.1 (hC0.below h).2.2 hC
  clear hC0
  obtain ⟨d0, hd1, hd2, hd3⟩ := hC.some_wt
  have hwl := wts_len F n m
  have hdc : distC F n m = leastD (wts F n m) := rfl
  obtain ⟨cs, hcs⟩ : ∃ cs, cs = wts F n m := ⟨_, rfl⟩
  rw [← hcs] at hW hd3 hwl hdc
  rw [hdc] at hRR
  have HWW := hide hW
  have HRR := Lib.hid hRR
  have HD3 := hide hd3
  have HWL := Lib.hid hwl
  clear hW hRR hC hcs hd3 hwl hdc
  have f0 := k0.cell 0
  have f1 := k0.cell 1
  have f2 := k0.cell 2
  have f3 := k0.cell 3
  go_enter Try.func47, Try.ntmps47
  go_upto_region 1 with fail
  rw [← HW.out]
  go_wp2_with fail
  refine (unhide HV).mono ?_
  rintro e w1 ⟨rfl, b1⟩
  have k1 := k0.below b1 k0.lt
  clear f0 f1 f2 f3
  have f0 := k1.cell 0
  have f1 := k1.cell 1
  have f2 := k1.cell 2
  have f3 := k1.cell 3
  have bb1 := b0.trans (b1.mono (Nat.le_of_lt sk0))
  go_wp2_with fail
  refine (unhide HWW w1 b1).mono ?_
  rintro e w2 ⟨v, rfl, o2, b2⟩
  obtain ⟨av, cv, rfl, r2, _⟩ := o2.form
  have bb2 := bb1.trans (b2.mono bb1.size)
  have R2 := hide r2
  have hcl : cs.length ≤ 33 := by rw [HWL.out]; omega
  clear o2 r2
  go_wp2_with fail
  go_loopw [5] (fun dv wr => ∃ d1 : Nat, dv = .int .i64 d1 ∧ 1 ≤ d1 ∧ d1 ≤ d0 ∧ Hid (∀ j, 1 ≤ j → j < d1 → nth cs j = 0) ∧ w2 = wr) (fun dv _ => d0 - (intOf dv).toNat)
  case atStart => exact ⟨1, rfl, Nat.le_refl _, hd1, fun j h1 h2 => by omega, rfl⟩
  case round =>
   obtain ⟨d1, rfl, h1, h2, hz, rfl⟩ := hrel
   have hlt : d1 < cs.length := by rw [HWL.out]; omega
   obtain ⟨g1, o1, rfl, _, hc⟩ := (unhide R2).at_ (by omega)
   have hc1 := hc d1 hlt
   obtain ⟨u, hu⟩ : ∃ u, u = nth cs d1 := ⟨_, rfl⟩
   rw [← hu] at hc1
   have HU := Lib.hid hu
   clear hc hu
   by_cases hn : u = 0
   · have hbn : (u == 0) = true := by rw [hn]; rfl
     have HN := Lib.hid hn
     clear hn
     have hne : d1 ≠ d0 := fun e => unhide HD3 (by rw [← e, ← HU.out, HN.out])
     go_wp2
     go_roundw
     case rel =>
      refine ⟨d1 + 1, by go_num, by omega, by omega, fun j a1 a2 => ?_, trivial⟩
      by_cases e : j = d1
      · rw [e, ← HU.out, HN.out]
      · exact hz.out j a1 (by omega)
     case measure => simp only [intOf]; omega
   · have hbn : (u == 0) = false := by rw [beq_eq_false_iff_ne]; exact hn
     have HN := hide hn
     clear hn
     have hld : leastD cs = d1 := leastD_hit h1 hlt (by rw [← HU.out]; exact unhide HN) hz.out
     have HLD := Lib.hid hld
     clear hld
     go_wp2
     go_ret2
     rw [HRR.out]
     show ResI w ((leastD cs : Int), 0) _ _
     rw [HLD.out]
     exact ⟨rfl, bb2⟩
theorem implDI_any (p d : Int) (a : Option Addr) (c : Nat) (xs : List Int) (ra : Option Addr) (rc : Nat) (m : List (List Int)) (w : World) (hx : Rd w a xs) (hm : RdS w ra m) (ed : I64 d) : Calls Try.prog 34 #[.agg #[.int .i64 p, .int .i64 d, .slice a xs.length c, .slice ra m.length rc]] w (ResI w (distRes p d xs m)) := by
 have hml := hm.len
 generalize hR : distRes p d xs m = r
 obtain ⟨W0, hHW⟩ : ∃ z, z = w.alloc (.cells #[.int .i64 p, .int .i64 d, .slice a xs.length c, .slice ra m.length rc] 37) := ⟨_, rfl⟩
 have b0 : Below w.heap.size w W0 := by rw [hHW]; exact (Below.refl _ _).alloc (Nat.le_refl _) _
 have k0 : Blk W0 w.heap.size 37 #[.int .i64 p, .int .i64 d, .slice a xs.length c, .slice ra m.length rc] := by rw [hHW]; exact Blk.new _ _ _ rfl
 have sk0 : w.heap.size < W0.heap.size := k0.lt
 have HW := Lib.hid hHW
 clear hHW
 have hV := implVC_any p d a c xs ra rc m W0 (hx.below b0) (hm.below b0) ed
 cases hk : okC p d xs m with
 | false =>
  have HN := Lib.hid (show r = (0, 1) by rw [← hR, distRes, hk]; rfl)
  rw [hk] at hV
  have HV := hide hV
  clear hV hk hR
  have f0 := k0.cell 0
  have f1 := k0.cell 1
  have f2 := k0.cell 2
  have f3 := k0.cell 3
  go_enter Try.func34, Try.ntmps34
  go_upto_region 1 with fail
  rw [← HW.out]
  go_wp2_with fail
  refine (unhide HV).mono ?_
  rintro e w1 ⟨rfl, b1⟩
  have k1 := k0.below b1 k0.lt
  clear f0 f1 f2 f3
  have f0 := k1.cell 0
  have f1 := k1.cell 1
  have f2 := k1.cell 2
  have f3 := k1.cell 3
  have bb1 := b0.trans (b1.mono (Nat.le_of_lt sk0))
  go_wp2
  go_ret2
  rw [HN.out]
  exact ⟨rfl, bb1⟩
 | true =>
  obtain ⟨F, n, rfl, rfl, rfl, hC⟩ := okC_gc hk
  have ok := hC.good.ok
  obtain ⟨n2, n64⟩ := ok.n_bd
  have hm1 := hC.m1
  have hm0 : 0 < m.length := by omega
  have hm8 := hC.m8
  have hn1 := hC.n1
  have hn32 := hC.n32
  rw [hk] at hV
  have HV := hide hV
  have hRR : r = ((distC F n m : Int), 0) := by rw [← hR, distRes, hk, fdR_eq, hC.hn]; rfl
  clear hV hk hR
  have hW := fun W (h : Below W0.heap.size W0 W) => weightsOf_any F a c ra rc m n W ((hx.below b0).below h) ((hm.below b0).below h) hC
  obtain ⟨d0, hd1, hd2, hd3⟩ := hC.some_wt
  have hwl := wts_len F n m
  have hdc : distC F n m = leastD (wts F n m) := rfl
  obtain ⟨cs, hcs⟩ : ∃ cs, cs = wts F n m := ⟨_, rfl⟩
  rw [← hcs] at hW hd3 hwl hdc
  rw [hdc] at hRR
  have HWW := hide hW
  have HRR := Lib.hid hRR
  have HD3 := hide hd3
  have HWL := Lib.hid hwl
  clear hW hRR hC hcs hd3 hwl hdc
  have f0 := k0.cell 0
  have f1 := k0.cell 1
  have f2 := k0.cell 2
  have f3 := k0.cell 3
  go_enter Try.func34, Try.ntmps34
  go_upto_region 1 with fail
  rw [← HW.out]
  go_wp2_with fail
  refine (unhide HV).mono ?_
  rintro e w1 ⟨rfl, b1⟩
  have k1 := k0.below b1 k0.lt
  clear f0 f1 f2 f3
  have f0 := k1.cell 0
  have f1 := k1.cell 1
  have f2 := k1.cell 2
  have f3 := k1.cell 3
  have bb1 := b0.trans (b1.mono (Nat.le_of_lt sk0))
  go_wp2_with fail
  refine (unhide HWW w1 b1).mono ?_
  rintro e w2 ⟨v, rfl, o2, b2⟩
  obtain ⟨av, cv, rfl, r2, _⟩ := o2.form
  have bb2 := bb1.trans (b2.mono bb1.size)
  have R2 := hide r2
  have hcl : cs.length ≤ 33 := by rw [HWL.out]; omega
  clear o2 r2
  go_wp2_with fail
  go_loopw [5] (fun dv wr => ∃ d1 : Nat, dv = .int .i64 d1 ∧ 1 ≤ d1 ∧ d1 ≤ d0 ∧ Hid (∀ j, 1 ≤ j → j < d1 → nth cs j = 0) ∧ w2 = wr) (fun dv _ => d0 - (intOf dv).toNat)
  case atStart => exact ⟨1, rfl, Nat.le_refl _, hd1, fun j h1 h2 => by omega, rfl⟩
  case round =>
   obtain ⟨d1, rfl, h1, h2, hz, rfl⟩ := hrel
   have hlt : d1 < cs.length := by rw [HWL.out]; omega
   obtain ⟨g1, o1, rfl, _, hc⟩ := (unhide R2).at_ (by omega)
   have hc1 := hc d1 hlt
   obtain ⟨u, hu⟩ : ∃ u, u = nth cs d1 := ⟨_, rfl⟩
   rw [← hu] at hc1
   have HU := Lib.hid hu
   clear hc hu
   by_cases hn : u = 0
   · have hbn : (u == 0) = true := by rw [hn]; rfl
     have HN := Lib.hid hn
     clear hn
     have hne : d1 ≠ d0 := fun e => unhide HD3 (by rw [← e, ← HU.out, HN.out])
     go_wp2
     go_roundw
     case rel =>
      refine ⟨d1 + 1, by go_num, by omega, by omega, fun j a1 a2 => ?_, trivial⟩
      by_cases e : j = d1
      · rw [e, ← HU.out, HN.out]
      · exact hz.out j a1 (by omega)
     case measure => simp only [intOf]; omega
   · have hbn : (u == 0) = false := by rw [beq_eq_false_iff_ne]; exact hn
     have HN := hide hn
     clear hn
     have hld : leastD cs = d1 := leastD_hit h1 hlt (by rw [← HU.out]; exact unhide HN) hz.out
     have HLD := Lib.hid hld
     clear hld
     go_wp2
     go_ret2
     rw [HRR.out]
     show ResI w ((leastD cs : Int), 0) _ _
     rw [HLD.out]
     exact ⟨rfl, bb2⟩
end Go.Proofs.Ytgmgpcaahanmiaa
namespace Go.Proofs.Ytgmgpcaahanmiaa
open Go.RowKit
attribute [local go_sem ↓] Go.wp_at_zero Go.wp_at_succ
noncomputable def mdsRes (p d : Int) (xs : List Int) (m : List (List Int)) : Bool × Int := if okC p d xs m = true then ((distC (fdR p d xs) (nthL m 0).length m : Int) == ((nthL m 0).length : Int) - (m.length : Int) + 1, 0) else (false, 1)
def ResB (w : World) (r : Bool × Int) (e : Ending) (w' : World) : Prop := e = .returned (.tuple #[.bool r.1, .int .i64 r.2]) ∧ Below w.heap.size w w'
theorem leastD_ok {cs : List Int} {d0 : Nat} (h1 : 1 ≤ d0) (h2 : d0 < cs.length) (h3 : nth cs d0 ≠ 0) : 1 ≤ leastD cs ∧ leastD cs ≤ d0 ∧ nth cs (leastD cs) ≠ 0 ∧ ∀ j, 1 ≤ j → j < leastD cs → nth cs j = 0 := by
 cases h : (List.range cs.length).find? (fun d => decide (1 ≤ d) && (nth cs d != 0)) with
 | none =>
  rw [List.find?_eq_none] at h
  have := h d0 (List.mem_range.2 h2)
  simp [h1, h3] at this
 | some d =>
  have e : leastD cs = d := by rw [leastD, h]; rfl
  rw [List.find?_range_eq_some] at h
  obtain ⟨a, b, c⟩ := h
  simp only [Bool.and_eq_true, decide_eq_true_eq, bne_iff_ne] at a
  have hz : ∀ j, 1 ≤ j → j < d → nth cs j = 0 := fun j j1 j2 => by
   have := c j j2
   simp only [Bool.not_eq_true', Bool.and_eq_false_iff, decide_eq_false_iff_not, bne_eq_false_iff_eq] at this
   rcases this with h | h
   · exact absurd j1 h
   · exact h
  rw [e]
  refine ⟨a.1, ?_, a.2, hz⟩
  rcases Nat.lt_or_ge d0 d with hh | hh
  · exact absurd (hz d0 h1 hh) h3
  · exact hh
theorem GC.dist {F : FD} {n : Nat} {m : List (List Int)} (h : GC F n m) : 1 ≤ distC F n m ∧ distC F n m ≤ n := by
 obtain ⟨d0, h1, h2, h3⟩ := h.some_wt
 have := leastD_ok h1 (by rw [wts_len]; omega) h3
 exact ⟨this.1, by have := this.2.1; rw [distC]; omega⟩
theorem implMD_any (p d : Int) (a : Option Addr) (c : Nat) (xs : List Int) (ra : Option Addr) (rc : Nat) (m : List (List Int)) (w : World) (hx : Rd w a xs) (hm : RdS w ra m) (ed : I64 d) : Calls Try.prog 27 #[.agg #[.int .i64 p, .int .i64 d, .slice a xs.length c, .slice ra m.length rc]] w (ResB w (mdsRes p d xs m)) := by
 have hml := hm.len
 generalize hR : mdsRes p d xs m = r
 obtain ⟨W0, hHW⟩ : ∃ z, z = w.alloc (.cells #[.int .i64 p, .int .i64 d, .slice a xs.length c, .slice ra m.length rc] 37) := ⟨_, rfl⟩
 have b0 : Below w.heap.size w W0 := by rw [hHW]; exact (Below.refl _ _).alloc (Nat.le_refl _) _
 have k0 : Blk W0 w.heap.size 37 #[.int .i64 p, .int .i64 d, .slice a xs.length c, .slice ra m.length rc] := by rw [hHW]; exact Blk.new _ _ _ rfl
 have sk0 : w.heap.size < W0.heap.size := k0.lt
 have HW := Lib.hid hHW
 clear hHW
 have hD := implDI_any p d a c xs ra rc m W0 (hx.below b0) (hm.below b0) ed
 cases hk : okC p d xs m with
 | false =>
  have HN := Lib.hid (show r = (false, 1) by rw [← hR, mdsRes, hk]; rfl)
  have hdr : distRes p d xs m = (0, 1) := by rw [distRes, hk]; rfl
  rw [hdr] at hD
  have HD := hide hD
  clear hD hk hR hdr
  have f0 := k0.cell 0
  have f1 := k0.cell 1
  have f2 := k0.cell 2
  have f3 := k0.cell 3
  go_enter Try.func27, Try.ntmps27
  go_upto_region 1 with fail
  rw [← HW.out]
  go_wp2_with fail
  refine (unhide HD).mono ?_
  rintro e w1 ⟨rfl, b1⟩
  have k1 := k0.below b1 k0.lt
  clear f0 f1 f2 f3
  have f0 := k1.cell 0
  have f1 := k1.cell 1
  have f2 := k1.cell 2
  have f3 := k1.cell 3
  have bb1 := b0.trans (b1.mono (Nat.le_of_lt sk0))
  go_wp2
  go_ret2
  rw [HN.out]
  exact ⟨rfl, bb1⟩
 | true =>
  obtain ⟨F, n, rfl, rfl, rfl, hC⟩ := okC_gc hk
  have ok := hC.good.ok
  obtain ⟨n2, n64⟩ := ok.n_bd
  have hm1 := hC.m1
  have hm0 : 0 < m.length := by omega
  have hm8 := hC.m8
  have hn1 := hC.n1
  have hn32 := hC.n32
  have hdr : distRes F.p F.k F.poly m = ((distC F n m : Int), 0) := by rw [distRes, hk, fdR_eq, hC.hn]; rfl
  have hRR : r = ((distC F n m : Int) == (n : Int) - (m.length : Int) + 1, 0) := by rw [← hR, mdsRes, hk, fdR_eq, hC.hn]; rfl
  rw [hdr] at hD
  obtain ⟨hd1, hdn⟩ := hC.dist
  have hL := fun W (h : Below W0.heap.size W0 W) => lengthOf_any F.p F.k a F.poly.length c ra rc m W ((hm.below b0).below h) hm1
  rw [hC.hn] at hL
  generalize distC F n m = D at hd1 hdn hD hRR
  have hw1 : IntKind.i64.wrap ((n : Int) - (m.length : Int)) = (n : Int) - (m.length : Int) := IntWalk.i64_in _ (by omega)
  have hw2 : IntKind.i64.wrap ((n : Int) - (m.length : Int) + 1) = (n : Int) - (m.length : Int) + 1 := IntWalk.i64_in _ (by omega)
  obtain ⟨R, hRb⟩ : ∃ R, R = ((D : Int) == (n : Int) - (m.length : Int) + 1) := ⟨_, rfl⟩
  rw [← hRb] at hRR
  have HD := hide hD
  have HL := hide hL
  have HRR := Lib.hid hRR
  have BX := hide (show ∀ W, Below W0.heap.size W0 W → (Below W0.heap.size W0 W ∧ W.cell? ⟨w.heap.size, 0, none⟩ = some (.int .i64 F.p) ∧ W.cell? ⟨w.heap.size, 1, none⟩ = some (.int .i64 F.k) ∧ W.cell? ⟨w.heap.size, 2, none⟩ = some (.slice a F.poly.length c) ∧ W.cell? ⟨w.heap.size, 3, none⟩ = some (.slice ra m.length rc)) from fun W h => ⟨h, (k0.below h k0.lt).cell 0, (k0.below h k0.lt).cell 1, (k0.below h k0.lt).cell 2, (k0.below h k0.lt).cell 3⟩)
  clear hD hRR hC hdr hk hR hL
  have f0 := k0.cell 0
  have f1 := k0.cell 1
  have f2 := k0.cell 2
  have f3 := k0.cell 3
  go_enter Try.func27, Try.ntmps27
  go_upto_region 1 with fail
  rw [← HW.out]
  go_wp2_with fail
  refine (unhide HD).mono ?_
  rintro e w1 ⟨rfl, b1⟩
  have k1 := k0.below b1 k0.lt
  clear f0 f1 f2 f3
  have f0 := k1.cell 0
  have f1 := k1.cell 1
  have f2 := k1.cell 2
  have f3 := k1.cell 3
  have bb1 := b0.trans (b1.mono (Nat.le_of_lt sk0))
  go_upto_region 4 with fail
  go_region_held3 (fun W => Below W0.heap.size W0 W ∧ W.cell? ⟨w.heap.size, 0, none⟩ = some (.int .i64 F.p) ∧ W.cell? ⟨w.heap.size, 1, none⟩ = some (.int .i64 F.k) ∧ W.cell? ⟨w.heap.size, 2, none⟩ = some (.slice a F.poly.length c) ∧ W.cell? ⟨w.heap.size, 3, none⟩ = some (.slice ra m.length rc))
   (first | exact (unhide BX) _ b1.drew | exact (unhide BX) _ (by assumption))
   (first
    | (go_at_call 108; refine (unhide HL _ ?_).mono ?_; exact And.left (by assumption); rintro e w2 ⟨rfl, b2⟩; have hB2 := Below.chain (a := W0) (And.left (by assumption)) b2)
    | (go_at_call 109; refine (sizeS_any _ _ _ _).mono ?_; rintro e w3 ⟨rfl, rfl⟩))
  go_wp2
  go_ret2
  rw [HRR.out]
  exact ⟨by rw [hRb]; rfl, b0.trans (hB2.mono (Nat.le_of_lt sk0))⟩
end Go.Proofs.Ytgmgpcaahanmiaa
namespace Go.Proofs.Ytgmgpcaahanmiaa
open Go.RowKit
attribute [local go_sem ↓] Go.wp_at_zero Go.wp_at_succ
theorem inSpan_any (F : FD) (tv : Value) (ra : Option Addr) (rc : Nat) (rows : List (List Int)) (pa : Option Addr) (pc : Nat) (piv : List Int) (b : Option Addr) (cb : Nat) (v : List Int) (n : Nat) (w : World) (hT : Tabs w F tv) (hG : F.Good) (hx : RdS w ra rows) (hp : Rd w pa piv) (hy : Rd w b v) (hM : F.Mat n rows) (hn1 : 1 ≤ n) (hn : n ≤ 32) (hpl : piv.length ≤ rows.length) (hpb : ∀ j, j < piv.length → ∃ p : Nat, nth piv j = (p : Int) ∧ p < n) (hvl : v.length = n) (hv : ∀ x ∈ v, 0 ≤ x ∧ x < F.n) :
    Calls Try.prog 183 #[tv, .slice ra rows.length rc, .slice pa piv.length pc, .slice b n cb] w fun e w' => e = .returned (.bool (isZ (restTo F rows piv v piv.length))) ∧ Below w.heap.size w w' := by
 have hT0 := hT
 obtain ⟨aA, cA, aS, cS, aM, cM, aI, cI, rfl, tA, tS, tM, tI⟩ := hT
 have ok := hG.ok
 obtain ⟨n2, n64⟩ := ok.n_bd
 have hpll := hp.len
 have hxl := hx.len
 obtain ⟨W0, hHW⟩ : ∃ z, z = w.alloc (.cells #[.int .i64 F.n, .slice aA F.n cA, .slice aS F.n cS, .slice aM F.n cM, .slice aI F.n cI] 93) := ⟨_, rfl⟩
 have b0 : Below w.heap.size w W0 := by rw [hHW]; exact (Below.refl _ _).alloc (Nat.le_refl _) _
 have kT : Blk W0 w.heap.size 93 #[.int .i64 F.n, .slice aA F.n cA, .slice aS F.n cS, .slice aM F.n cM, .slice aI F.n cI] := by rw [hHW]; exact Blk.new _ _ _ rfl
 have skT : w.heap.size < W0.heap.size := kT.lt
 have HW := Lib.hid hHW
 clear hHW
 have hcl := clone_any b cb v W0 (hy.below b0)
 rw [hvl] at hcl
 have hrl := fun k => restTo_len F rows piv v k
 have hre := fun k => restTo_el ok piv (rows := rows) hv k
 rw [hvl] at hrl
 have hst : ∀ k, restTo F rows piv v (k + 1) = addTo F (restTo F rows piv v k) (nthL rows k) (F.sub 0 (nth (restTo F rows piv v k) (nth piv k).toNat)) n := fun k => by rw [restTo, hvl]
 have HCL := hide hcl
 have HX := hide (hx.below b0)
 have HP := hide (hp.below b0)
 have HMM := hide hM
 have HPB := hide hpb
 have HT := hide (hT0.below b0)
 have TS := hide (tS.below b0)
 have HRL := hide hrl
 have HRE := hide hre
 have HST := hide hst
 have h00 : restTo F rows piv v 0 = v := rfl
 have H00 := Lib.hid h00
 clear hcl hx hp hM hpb hT0 tA tS tM tI hrl hre hst hy hv hvl h00
 go_enter Try.func183, Try.ntmps183
 go_upto_region 1 with fail
 rw [← HW.out]
 go_wp2_with fail
 refine (unhide HCL).mono ?_
 rintro e w1 ⟨v1, rfl, o1, b1⟩
 obtain ⟨gr, c1, rfl, hgr, hgr1, hcr, hcr2⟩ := o1.at_len (by have := unhide HRL 0; rw [H00.out] at this; exact this) hn1
 have z1 := b1.size
 rw [← H00.out] at o1
 have O1 := Lib.hid o1
 clear o1
 go_wp2_with fail
 go_loopw [16] (fun iv wr => ∃ k : Nat, iv = .int .i64 k ∧ k ≤ piv.length ∧ Hid (Own wr W0.heap.size (.slice (some ⟨gr, 0, none⟩) n c1) (restTo F rows piv v k)) ∧ Hid (w1.grownBy wr (some gr))) (fun iv _ => piv.length - (intOf iv).toNat)
 case atStart => exact ⟨0, rfl, Nat.zero_le _, O1, hide (grown_refl _ _)⟩
 case round =>
  obtain ⟨k, rfl, hk, ho, hg⟩ := hrel
  have hbg : Below W0.heap.size W0 wr := b1.grown hg.out z1 (fun q hq => by injection hq; omega)
  by_cases hkl : k < piv.length
  · have kTr := kT.below hbg kT.lt
    obtain ⟨p, hp, hpn⟩ := unhide HPB k hkl
    obtain ⟨gp, op, rfl, _, hcp⟩ := ((unhide HP).below hbg).at_ (by omega)
    have hp1 := hcp k hkl
    rw [hp] at hp1
    have hkr : k < rows.length := by omega
    obtain ⟨gw, ow, rfl, hgw, hcw⟩ := (unhide HX).at_ (by omega)
    obtain ⟨ai, ci, hr0, hrr0⟩ := hcw k hkr
    have hmt := Mat_nth (unhide HMM) hkr
    rw [hmt.1] at hr0
    have hr1 := (hbg.cell (p := ⟨gw, ow + k, none⟩) hgw).trans hr0
    have hrr := hrr0.below hbg
    have hrl := unhide HRL k
    have hre := unhide HRE k
    have hst := unhide HST k
    rw [hp, Int.toNat_natCast] at hst
    have xc := ho.out.cell (j := p) (by rw [hrl]; exact hpn)
    have hxr := hre _ (nth_mem (k := p) (by rw [hrl]; exact hpn))
    obtain ⟨x, hx⟩ := Int.eq_ofNat_of_zero_le hxr.1
    rw [hx] at xc hxr hst
    have hxn : x < F.n := by omega
    have hDb := sub_bd ok 0 x
    obtain ⟨bS, oS, bs, os, cs, rfl, s1, s2⟩ := tab_at ((unhide TS).below hbg) (i := 0) (j := x) (by omega) hxn
    rw [show ((0 : Nat) : Int) = 0 from rfl] at s2
    obtain ⟨D, hD⟩ : ∃ D, D = F.sub 0 x := ⟨_, rfl⟩
    rw [← hD] at s2 hst hDb
    obtain ⟨rest, hrest⟩ : ∃ rest, rest = restTo F rows piv v k := ⟨_, rfl⟩
    rw [← hrest] at ho hrl hre hst
    have hat : Calls Try.prog 90 #[.agg #[.int .i64 F.n, .slice aA F.n cA, .slice (some ⟨bS, oS, none⟩) F.n cS, .slice aM F.n cM, .slice aI F.n cI], .slice (some ⟨gr, 0, none⟩) n c1, .slice ai n ci, .int .i64 D] wr.drew fun e w' => e = .returned (.tuple #[]) ∧ Own w' W0.heap.size (.slice (some ⟨gr, 0, none⟩) n c1) (addTo F rest (nthL rows k) D n) ∧ wr.drew.grownBy w' (some gr) := by
     have h := addTimes_any F _ W0 wr.drew W0.heap.size gr c1 ai ci rest (nthL rows k) D ok (unhide HT) hbg.drew (Nat.le_refl _) (by rw [hrl]; exact ho.out.drewN 1) (hrr.drewN 1) (fun q hq => by
      obtain ⟨b9, o9, e9, hb9, _⟩ := hrr0.at_ (by rw [hmt.1]; omega)
      rw [hq] at e9
      injection e9 with e9
      rw [e9]
      show b9 ≠ gr
      omega) (by rw [hrl, hmt.1]) hDb.1 hDb.2 hre hmt.2
     rw [hrl, hmt.1] at h
     exact h
    have HAT := hide hat
    have HST := Lib.hid hst
    have f0 := kTr.cell 0
    have f1 := kTr.cell 1
    have f2 := kTr.cell 2
    have f3 := kTr.cell 3
    have f4 := kTr.cell 4
    have hFn0 : 0 < F.n := by omega
    rw [Nat.add_zero] at s1
    clear hat hst hD hx hp hrest hcp hcw hrr hrr0 hr0 hmt hre hrl hxr hDb kTr
    go_wp2_with fail
    go_still_tail 16, (by kernel_rfl)
    change wpList _ _ _ _ _ wr.drew
    go_wp2_with fail
    refine (unhide HAT).mono ?_
    rintro e w5 ⟨rfl, o5, g5⟩
    go_wp2_with fail
    go_roundw
    case rel =>
     refine ⟨k + 1, by go_num, by omega, ?_, hide (grown_trans_row (grown_trans_row hg.out (grown_drew1 wr _)) g5)⟩
     show Own _ _ _ _
     rw [HST.out]
     exact o5
    case measure => simp only [intOf]; omega
  · have hke : k = piv.length := by omega
    have HE := Lib.hid hke
    have hz := isZero_any (some ⟨gr, 0, none⟩) c1 (restTo F rows piv v k) wr (by have h := ho.out.rd; exact h)
    rw [unhide HRL k, hke] at hz
    have HZ := hide hz
    clear hke hz
    go_wp2_with fail
    refine (unhide HZ).mono ?_
    rintro e w5 ⟨rfl, rfl⟩
    go_wp2
    go_ret
    exact ⟨rfl, b0.trans (hbg.mono (Nat.le_of_lt skT))⟩
end Go.Proofs.Ytgmgpcaahanmiaa
namespace Go.Proofs.Ytgmgpcaahanmiaa
open Go.RowKit
attribute [local go_sem ↓] Go.wp_at_zero Go.wp_at_succ
def hasV (F : FD) (n : Nat) (m : List (List Int)) (v : List Int) : Bool := if v.length = n ∧ elems F.n v = true then decide ((form F (m ++ [v]) n).length = m.length) else false
def hasRes (p d : Int) (xs : List Int) (m : List (List Int)) (v : List Int) : Bool := okC p d xs m && hasV (fdR p d xs) (nthL m 0).length m v
theorem GC.has_rest {F : FD} {n : Nat} {m : List (List Int)} (h : GC F n m) {v : List Int} (hv : v.length = n ∧ ∀ x ∈ v, 0 ≤ x ∧ x < F.n) : isZ (restTo F m (red F m n).2 v (red F m n).2.length) = decide ((form F (m ++ [v]) n).length = m.length) := by
 obtain ⟨pv, hpv, hE, hS⟩ := form_ech h.good h.mat
 have h1 := rank_iff h.good h.mat hv
 rw [h.fix] at hE h1
 have h2 := rest_iff h.good hE hv
 have hl : pv.length = m.length := hE.len
 rw [hpv, List.length_map, hl]
 have h3 : isZ (restTo F m (pv.map fun (x : Nat) => (x : Int)) v m.length) = true ↔ ∀ x ∈ restTo F m (pv.map fun (x : Nat) => (x : Int)) v m.length, x = 0 := by
  rw [isZ, Bool.not_eq_true', List.any_eq_false]
  refine ⟨fun h x hx => ?_, fun h x hx => ?_⟩
  · have := h x hx
    simpa [notZero] using this
  · simp [notZero, h x hx]
 rw [Bool.eq_iff_iff, h3, h2, decide_eq_true_eq, h1]
theorem okC_okM {p d : Int} {xs : List Int} {m : List (List Int)} (h : okC p d xs m = true) : okM p d xs m = true := by
 rw [okC, Bool.and_eq_true] at h
 exact h.1
theorem GC.piv_bd {F : FD} {n : Nat} {m : List (List Int)} (h : GC F n m) : (red F m n).2.length = m.length ∧ ∀ j, j < (red F m n).2.length → ∃ p : Nat, nth (red F m n).2 j = (p : Int) ∧ p < n := by
 obtain ⟨pv, hpv, hE, _⟩ := form_ech h.good h.mat
 rw [h.fix] at hE
 refine ⟨by rw [hpv, List.length_map, hE.len], fun j hj => ?_⟩
 have hj' : j < pv.length := by rw [hpv, List.length_map] at hj; exact hj
 refine ⟨pv.getD j 0, ?_, hE.lt j hj'⟩
 rw [hpv, nth_lt (by rw [List.length_map]; exact hj'), List.getElem_map, List.getD_eq_getElem?_getD, List.getElem?_eq_getElem hj']
 rfl
theorem spanHas_any (F : FD) (ap : Option Addr) (cp : Nat) (ra : Option Addr) (rc : Nat) (m : List (List Int)) (b : Option Addr) (cb : Nat) (v : List Int) (n : Nat) (w : World) (hR : Rd w ap F.poly) (hm : RdS w ra m) (hy : Rd w b v) (hC : GC F n m) (hok : okM F.p F.k F.poly m = true) (ed : I64 F.k) :
    Calls Try.prog 104 #[.agg #[.int .i64 F.p, .int .i64 F.k, .slice ap F.poly.length cp], .slice ra m.length rc, .slice b v.length cb] w fun e w' => e = .returned (.bool (hasV F n m v)) ∧ Below w.heap.size w w' := by
 have hml := hm.len
 have hvl0 := hy.len
 have ok := hC.good.ok
 obtain ⟨n2, n64⟩ := ok.n_bd
 have hm1 := hC.m1
 have hm0 : 0 < m.length := by omega
 have hn1 := hC.n1
 have hn32 := hC.n32
 obtain ⟨W0, hHW⟩ : ∃ z, z = w.alloc (.cells #[.int .i64 F.p, .int .i64 F.k, .slice ap F.poly.length cp] 34) := ⟨_, rfl⟩
 have b0 : Below w.heap.size w W0 := by rw [hHW]; exact (Below.refl _ _).alloc (Nat.le_refl _) _
 have k0 : Blk W0 w.heap.size 34 #[.int .i64 F.p, .int .i64 F.k, .slice ap F.poly.length cp] := by rw [hHW]; exact Blk.new _ _ _ rfl
 have sk0 : w.heap.size < W0.heap.size := k0.lt
 have HW := Lib.hid hHW
 clear hHW
 have hV := validMatrix_any F.p F.k ap cp F.poly ra rc m W0 (hR.below b0) (hm.below b0) ed
 rw [hok] at hV
 obtain ⟨gb, ob, rfl, hgb, hcc⟩ := (hm.below b0).at_ hm1
 obtain ⟨ai, ci, hr0, _⟩ := hcc 0 hm1
 rw [Nat.add_zero, hC.hn] at hr0
 have HV := hide hV
 have hdef : hasV F n m v = if v.length = n ∧ elems F.n v = true then decide ((form F (m ++ [v]) n).length = m.length) else false := rfl
 clear hV hcc hok
 by_cases hle : v.length = n
 ·
  have hbq : ((v.length : Int) != (n : Int)) = false := by rw [hle]; simp
  have hFS := fun W => fieldSize_any F ap cp W ok
  have hE := fun W h => areIn_any F.n b cb v W (by omega) (by omega) ((hy.below b0).below h)
  have HFS := hide hFS
  cases he : elems F.n v with
  | false =>
   have HN := Lib.hid (show hasV F n m v = false by rw [hdef, if_neg (by rw [he]; simp)])
   rw [he] at hE
   have HE := hide hE
   clear hE hFS he hle hdef hC
   have f0 := k0.cell 0
   have f1 := k0.cell 1
   have f2 := k0.cell 2
   go_enter Try.func104, Try.ntmps104
   go_upto_region 1 with fail
   rw [← HW.out]
   go_wp2_with fail
   refine (unhide HV).mono ?_
   rintro e w1 ⟨rfl, b1⟩
   have k1 := k0.below b1 k0.lt
   have hr1 := (b1.cell (p := ⟨gb, ob, none⟩) hgb).trans hr0
   clear f0 f1 f2
   have f0 := k1.cell 0
   have f1 := k1.cell 1
   have f2 := k1.cell 2
   have bb1 := b0.trans (b1.mono (Nat.le_of_lt sk0))
   go_wp2_with fail
   refine (unhide HFS w1).mono ?_
   rintro e w2 ⟨rfl, b2⟩
   go_wp2_with fail
   refine (unhide HE w2 (Below.chain b1 b2)).mono ?_
   rintro e w3 ⟨rfl, b3⟩
   have c3 := Below.chain (Below.chain b1 b2) b3
   have bb3 := b0.trans (c3.mono (Nat.le_of_lt sk0))
   go_wp2
   go_ret
   exact ⟨ret_bool (by rw [HN.out]), bb3⟩
  | true =>
   have hEl := elems_iff he
   have hres := hC.has_rest ⟨hle, hEl⟩
   have hdef2 : hasV F n m v = isZ (restTo F m (red F m n).2 v (red F m n).2.length) := by rw [hdef, if_pos ⟨hle, he⟩, hres]
   obtain ⟨hpl, hpb⟩ := hC.piv_bd
   have hfix := hC.fix
   rw [he] at hE
   have hT := fun W (h : Below W0.heap.size W0 W) => tablesOf_any F ap cp W ((hR.below b0).below h) ok
   have hRE := fun tv W (h : Below W0.heap.size W0 W) hT => reduce_any F tv (some ⟨gb, ob, none⟩) rc m n W hT hC.good ((hm.below b0).below h) hm0 hC.mat
   rw [hfix] at hRE
   obtain ⟨piv, hpiv⟩ : ∃ piv, piv = (red F m n).2 := ⟨_, rfl⟩
   rw [← hpiv] at hRE hpl hpb hdef2
   have hIN : ∀ tv (a1 : Option Addr) (c1 : Nat) (a2 : Option Addr) (c2 : Nat) W (_ : Below W0.heap.size W0 W) (_ : Tabs W F tv) (_ : RdS W a1 m) (_ : Rd W a2 piv), Calls Try.prog 183 #[tv, .slice a1 m.length c1, .slice a2 piv.length c2, .slice b v.length cb] W fun e w' => e = .returned (.bool (isZ (restTo F m piv v piv.length))) ∧ Below W.heap.size W w' := fun tv a1 c1 a2 c2 W h hT r1 r2 => by
    rw [hle]
    exact inSpan_any F tv a1 c1 m a2 c2 piv b cb v n W hT hC.good r1 r2 ((hy.below b0).below h) hC.mat hn1 hn32 (by omega) hpb hle hEl
   have HE := hide hE
   have HT := hide hT
   have HRE := hide hRE
   have HIN := hide hIN
   have HD := Lib.hid hdef2
   clear hE hFS he hle hdef hC hT hRE hIN hdef2 hres hpl hpb hfix hpiv hEl
   have f0 := k0.cell 0
   have f1 := k0.cell 1
   have f2 := k0.cell 2
   go_enter Try.func104, Try.ntmps104
   go_upto_region 1 with fail
   rw [← HW.out]
   go_wp2_with fail
   refine (unhide HV).mono ?_
   rintro e w1 ⟨rfl, b1⟩
   have k1 := k0.below b1 k0.lt
   have hr1 := (b1.cell (p := ⟨gb, ob, none⟩) hgb).trans hr0
   clear f0 f1 f2
   have f0 := k1.cell 0
   have f1 := k1.cell 1
   have f2 := k1.cell 2
   have bb1 := b0.trans (b1.mono (Nat.le_of_lt sk0))
   go_wp2_with fail
   refine (unhide HFS w1).mono ?_
   rintro e w2 ⟨rfl, b2⟩
   go_wp2_with fail
   refine (unhide HE w2 (Below.chain b1 b2)).mono ?_
   rintro e w3 ⟨rfl, b3⟩
   have c3 := Below.chain (Below.chain b1 b2) b3
   have bb3 := b0.trans (c3.mono (Nat.le_of_lt sk0))
   have k3 := k0.below c3 k0.lt
   clear f0 f1 f2
   have f0 := k3.cell 0
   have f1 := k3.cell 1
   have f2 := k3.cell 2
   go_wp2_with fail
   refine (unhide HT _ c3).mono ?_
   rintro e w4 ⟨tv, rfl, t4, b4⟩
   obtain ⟨aA, cA, aS, cS, aM, cM, aI, cI, rfl, t4A, t4S, t4M, t4I⟩ := t4
   obtain ⟨W5, hH5⟩ : ∃ z, z = w4.alloc (.cells #[.int .i64 F.n, .slice aA F.n cA, .slice aS F.n cS, .slice aM F.n cM, .slice aI F.n cI] 93) := ⟨_, rfl⟩
   have b5 : Below w4.heap.size w4 W5 := by rw [hH5]; exact (Below.refl _ _).alloc (Nat.le_refl _) _
   have kT : Blk W5 w4.heap.size 93 #[.int .i64 F.n, .slice aA F.n cA, .slice aS F.n cS, .slice aM F.n cM, .slice aI F.n cI] := by rw [hH5]; exact Blk.new _ _ _ rfl
   have H5 := Lib.hid hH5
   clear hH5
   have t5 : Tabs W5 F (.agg #[.int .i64 F.n, .slice aA F.n cA, .slice aS F.n cS, .slice aM F.n cM, .slice aI F.n cI]) := ⟨aA, cA, aS, cS, aM, cM, aI, cI, rfl, t4A.below b5, t4S.below b5, t4M.below b5, t4I.below b5⟩
   have c5 := Below.chain (Below.chain c3 b4) b5
   clear f0 f1 f2
   have g0 := kT.cell 0
   have g1 := kT.cell 1
   have g2 := kT.cell 2
   have g3 := kT.cell 3
   have g4 := kT.cell 4
   have T5 := hide t5
   clear t5 t4A t4S t4M t4I
   go_upto_region 4 with fail
   rw [← H5.out]
   go_wp2_with fail
   refine (unhide HRE _ W5 c5 (unhide T5)).mono ?_
   rintro e w6 ⟨v6, u6, d6, rfl, o6, q6, b6⟩
   obtain ⟨a1, c1, rfl, r1⟩ := o6.form
   obtain ⟨a2, c2, rfl, r2, _⟩ := q6.form
   have c6 := Below.chain c5 b6
   have bb6 := b0.trans (c6.mono (Nat.le_of_lt sk0))
   have kT6 := kT.below b6 kT.lt
   have T6 := hide ((unhide T5).below b6)
   have R1 := hide r1
   have R2 := hide r2
   clear g0 g1 g2 g3 g4 o6 q6 r1 r2
   have g0 := kT6.cell 0
   have g1 := kT6.cell 1
   have g2 := kT6.cell 2
   have g3 := kT6.cell 3
   have g4 := kT6.cell 4
   go_wp2_with fail
   refine (unhide HIN _ a1 c1 a2 c2 w6 c6 (unhide T6) (unhide R1) (unhide R2)).mono ?_
   rintro e w7 ⟨rfl, b7⟩
   go_wp2
   go_ret
   exact ⟨ret_bool (by rw [HD.out]), bb6.trans (b7.mono bb6.size)⟩
 · have hbq : ((v.length : Int) != (n : Int)) = true := by rw [bne_iff_ne]; omega
   have HN := Lib.hid (show hasV F n m v = false by rw [hdef, if_neg (fun h => hle h.1)])
   clear hle hdef hC
   have f0 := k0.cell 0
   have f1 := k0.cell 1
   have f2 := k0.cell 2
   go_enter Try.func104, Try.ntmps104
   go_upto_region 1 with fail
   rw [← HW.out]
   go_wp2_with fail
   refine (unhide HV).mono ?_
   rintro e w1 ⟨rfl, b1⟩
   have k1 := k0.below b1 k0.lt
   have hr1 := (b1.cell (p := ⟨gb, ob, none⟩) hgb).trans hr0
   clear f0 f1 f2
   have f0 := k1.cell 0
   have f1 := k1.cell 1
   have f2 := k1.cell 2
   have bb1 := b0.trans (b1.mono (Nat.le_of_lt sk0))
   go_wp2
   go_ret
   exact ⟨ret_bool (by rw [HN.out]), bb1⟩
end Go.Proofs.Ytgmgpcaahanmiaa
namespace Go.Proofs.Ytgmgpcaahanmiaa
open Go.RowKit
section
variable {F : FD} {n : Nat} {m : List (List Int)}
theorem wtTo_zero {xs : List Int} {k : Nat} (h : ∀ i, i < k → nth xs i = 0) : wtTo xs k = 0 := by
 induction k with
 | zero => rfl
 | succ k ih => rw [wtTo, if_pos (h k (by omega)), ih fun i hi => h i (by omega)]
theorem wtTo_cong {xs ys : List Int} {k : Nat} (h : ∀ i, i < k → (nth xs i = 0 ↔ nth ys i = 0)) : wtTo xs k = wtTo ys k := by
 induction k with
 | zero => rfl
 | succ k ih =>
  rw [wtTo, wtTo, ih fun i hi => h i (by omega)]
  have := h k (by omega)
  by_cases e : nth xs k = 0
  · rw [if_pos e, if_pos (this.1 e)]
  · rw [if_neg e, if_neg fun h2 => e (this.2 h2)]
def wf (v : Nat → Int) (k : Nat) : Nat := (List.range k).countP fun i => v i != 0
theorem wtTo_wf (xs : List Int) (k : Nat) : wtTo xs k = wf (nth xs) k := by
 induction k with
 | zero => rfl
 | succ k ih =>
  rw [wtTo, ih, wf, wf, List.range_succ, List.countP_append]
  by_cases e : nth xs k = 0
  · rw [if_pos e]; simp [e]
  · rw [if_neg e]; simp [e]
theorem wt_wf {xs : List Int} {k : Nat} (h : xs.length = k) : wt xs = wf (nth xs) k := by rw [wt, wtTo_wf, h]
theorem wf_le (v : Nat → Int) (k : Nat) : wf v k ≤ k := by
 have := List.countP_le_length (p := fun i => v i != 0) (l := List.range k)
 rwa [List.length_range] at this
theorem wf_zeros (v : Nat → Int) (k : Nat) {Z : List Nat} (hn : Z.Nodup) (hz : ∀ i ∈ Z, i < k ∧ v i = 0) : wf v k + Z.length ≤ k := by
 have h1 : Z.length ≤ ((List.range k).filter fun i => ! (v i != 0)).length := nodup_len hn fun x hx => by
  have := hz x hx
  exact List.mem_filter.2 ⟨List.mem_range.2 this.1, by simp [this.2]⟩
 have h2 := List.length_eq_countP_add_countP (fun i => v i != 0) (l := List.range k)
 rw [List.length_range] at h2
 rw [← List.countP_eq_length_filter] at h1
 have h3 : (List.range k).countP (fun i => ! (v i != 0)) = (List.range k).countP (fun a => decide ¬(v a != 0) = true) := List.countP_congr fun x _ => by simp
 rw [wf]
 omega
theorem wf_pos {v : Nat → Int} {k : Nat} (h : 1 ≤ wf v k) : ∃ i, i < k ∧ v i ≠ 0 := by
 obtain ⟨i, hi, hv⟩ := List.countP_pos_iff.1 (show 0 < (List.range k).countP (fun i => v i != 0) from h)
 exact ⟨i, List.mem_range.1 hi, by simpa using hv⟩
theorem wf_one {v : Nat → Int} {k i : Nat} (hi : i < k) (h : v i ≠ 0) : 1 ≤ wf v k := List.countP_pos_iff.2 ⟨i, List.mem_range.2 hi, by simpa using h⟩
theorem GC.ech (h : GC F n m) : ∃ pv, Ech F n m pv := by
 obtain ⟨pv, _, hE, _⟩ := form_ech h.good h.mat
 rw [h.fix] at hE
 exact ⟨pv, hE⟩
theorem Mat.el_all {A : List (List Int)} (ok : F.Ok) (hM : F.Mat n A) (v : List Int) (hv : v ∈ A) (i : Nat) : F.el (nth v i) := by
 rcases Nat.lt_or_ge i v.length with h | h
 · exact (el_n ok).2 ((hM v hv).2 _ (nth_mem h))
 · rw [nth_big h]; exact zero_el ok
theorem encTo_sp (ok : F.Ok) {A : List (List Int)} (hM : F.Mat n A) {msg : List Int} (hm : ∀ c ∈ msg, 0 ≤ c ∧ c < F.n) {k : Nat} (hk : k ≤ A.length) : Sp F A (nth (encTo F n A msg k)) := by
 induction k with
 | zero =>
  rw [encTo, show nth (zeros n) = fun _ => 0 from by funext i; exact zeros_nth n i]
  exact .zero
 | succ k ih =>
  have hc : F.el (nth msg k) := by
   rcases Nat.lt_or_ge k msg.length with hh | hh
   · exact (el_n ok).2 (hm _ (nth_mem hh))
   · rw [nth_big hh]; exact zero_el ok
  have h := (ih (by omega)).step (j := k) (by omega) hc
  have e : (fun i => F.add (nth (encTo F n A msg k) i) (F.mul (nth msg k) (nth (nthL A k) i))) = nth (encTo F n A msg (k + 1)) := by
   funext i
   rcases Nat.lt_or_ge i n with hi | hi
   · rw [encTo, addTo_nth F _ _ _ _ (by rw [encTo_len]; exact Nat.le_refl _), if_pos hi]
   · rw [nth_big (xs := encTo F n A msg (k + 1)) (by rw [encTo_len]; exact hi), nth_big (xs := encTo F n A msg k) (by rw [encTo_len]; exact hi), nth_big (xs := nthL A k) (by rw [(Mat_nth hM (i := k) (by omega)).1]; exact hi), mul_zero_all ok, add_zero' ok (zero_el ok)]
  rw [e] at h
  exact h
theorem Ech.enc (ok : F.Ok) {pv : List Nat} (hE : Ech F n m pv) {v : List Int} (hl : v.length = n) (hs : Sp F m (nth v)) : v = encTo F n m (pv.map (nth v)) m.length := by
 refine eq_of_nth (by rw [encTo_len, hl]) fun i hi => ?_
 rw [hl] at hi
 rw [encTo_sum ok n m _ _ hi, hE.coord ok hs i]
 refine sum_congr fun j hj => ?_
 have hj' : j < pv.length := by rw [hE.len]; exact hj
 rw [nth_lt (xs := pv.map (nth v)) (by rw [List.length_map]; exact hj'), List.getElem_map, List.getD_eq_getElem?_getD, List.getElem?_eq_getElem hj']
 rfl
theorem hig_all (ok : F.Ok) {k : Nat} {msg : List Int} (hl : msg.length = k) (he : ∀ c ∈ msg, 0 ≤ c ∧ c < F.n) : ∃ t, t < F.n ^ k ∧ hig t F.n k = msg := by
 have hn : (0 : Int) < F.n := by have := ok.n_bd; omega
 have hr : ∀ c ∈ msg.reverse, 0 ≤ c ∧ c < F.n := fun c hc => he c (List.mem_reverse.1 hc)
 have h := num_bound hn hr
 rw [List.length_reverse, hl] at h
 obtain ⟨t, ht⟩ := Int.eq_ofNat_of_zero_le h.1
 refine ⟨t, ?_, ?_⟩
 · have h2 := h.2
   rw [ht, ← Int.natCast_pow] at h2
   exact Int.ofNat_lt.1 h2
 · rw [hig, ← ht, dig_num hn hr (by rw [List.length_reverse, hl]), List.reverse_reverse]
theorem hig_inj {q k s t : Nat} (hq : 0 < q) (hs : s < q ^ k) (ht : t < q ^ k) (h : hig s q k = hig t q k) : s = t := by
 have e : dig (s : Int) q k = dig (t : Int) q k := by
  have := congrArg List.reverse h
  rwa [hig, hig, List.reverse_reverse, List.reverse_reverse] at this
 have hb : ∀ s : Nat, s < q ^ k → (s : Int) < (q : Int) ^ k := fun s hs => by rw [← Int.natCast_pow]; exact Int.ofNat_lt.2 hs
 have e2 := congrArg (num (q : Int)) e
 rw [num_dig (p := (q : Int)) (by omega) k (by omega) (hb s hs), num_dig (p := (q : Int)) (by omega) k (by omega) (hb t ht)] at e2
 exact Int.ofNat_inj.1 e2
theorem GC.word_sp (h : GC F n m) {j : Nat} (hj : j < F.n ^ m.length) : (nthL (wordsTo F n m m.length) j).length = n ∧ (∀ x ∈ nthL (wordsTo F n m m.length) j, 0 ≤ x ∧ x < F.n) ∧ Sp F m (nth (nthL (wordsTo F n m m.length) j)) := by
 have ok := h.good.ok
 obtain ⟨n2, _⟩ := ok.n_bd
 rw [wordsTo_nth F n m hj]
 exact ⟨encTo_len _ _ _ _ _, encTo_el ok _ _ _ _, encTo_sp ok h.mat (hig_el j (by omega) _) (Nat.le_refl _)⟩
theorem sp_mem (ok : F.Ok) {v : List Int} (hs : Sp F m (nth v)) : ∀ x ∈ v, 0 ≤ x ∧ x < F.n := fun x hx => by
 obtain ⟨i, hi, rfl⟩ := List.getElem_of_mem hx
 rw [← nth_lt hi]
 exact (el_n ok).1 (hs.el ok i)
theorem GC.sp_word (h : GC F n m) {v : List Int} (hl : v.length = n) (hs : Sp F m (nth v)) : ∃ j, j < F.n ^ m.length ∧ nthL (wordsTo F n m m.length) j = v := by
 have ok := h.good.ok
 obtain ⟨pv, hE⟩ := h.ech
 have he := hE.enc ok hl hs
 obtain ⟨t, ht, e⟩ := hig_all ok (k := m.length) (msg := pv.map (nth v)) (by rw [List.length_map, hE.len]) fun c hc => by
  obtain ⟨i, _, rfl⟩ := List.mem_map.1 hc
  exact (el_n ok).1 (hs.el ok i)
 exact ⟨t, ht, by rw [wordsTo_nth F n m ht, e, ← he]⟩
theorem GC.word_inj (h : GC F n m) {i j : Nat} (hi : i < F.n ^ m.length) (hj : j < F.n ^ m.length) (e : nthL (wordsTo F n m m.length) i = nthL (wordsTo F n m m.length) j) : i = j := by
 have ok := h.good.ok
 obtain ⟨n2, _⟩ := ok.n_bd
 obtain ⟨pv, hE⟩ := h.ech
 rw [wordsTo_nth F n m hi, wordsTo_nth F n m hj] at e
 refine hig_inj (by omega) hi hj (eq_of_nth (by rw [hig_len, hig_len]) fun l hl => ?_)
 rw [hig_len] at hl
 have h1 := encTo_piv ok hE (hig_el i (show 0 < F.n by omega) m.length) hl
 have h2 := encTo_piv ok hE (hig_el j (show 0 < F.n by omega) m.length) hl
 rw [← h1, e, h2]
theorem cntW_count (words : List (List Int)) {n d : Nat} (hd : d ≤ n) (k : Nat) : nth (cntW words n k) d = (((List.range k).countP fun j => wt (nthL words j) == d : Nat) : Int) := by
 induction k with
 | zero => rw [cntW, zeros_nth]; rfl
 | succ k ih =>
  rw [cntW, List.range_succ, List.countP_append]
  by_cases e : wt (nthL words k) = d
  · rw [e, nth_set_same (by rw [cntW_len]; omega), ih]
    simp [e]
  · rw [nth_set_ne e, ih]
    simp [e]
theorem GC.wts_count (_h : GC F n m) {d : Nat} (hd : d ≤ n) : nth (wts F n m) d = (((List.range (F.n ^ m.length)).countP fun j => wt (nthL (wordsTo F n m m.length) j) == d : Nat) : Int) := by
 rw [wts, cntW_count _ hd, wordsTo_len]
theorem GC.dist_spec (h : GC F n m) : (∃ v, v.length = n ∧ Sp F m (nth v) ∧ wt v = distC F n m) ∧ ∀ v, v.length = n → Sp F m (nth v) → 1 ≤ wt v → distC F n m ≤ wt v := by
 have ok := h.good.ok
 obtain ⟨d0, h1, h2, h3⟩ := h.some_wt
 have hl := leastD_ok h1 (by rw [wts_len]; omega) h3
 rw [← show distC F n m = leastD (wts F n m) from rfl] at hl
 constructor
 · have h4 := hl.2.2.1
   rw [h.wts_count (by omega)] at h4
   have h5 : 0 < (List.range (F.n ^ m.length)).countP fun j => wt (nthL (wordsTo F n m m.length) j) == distC F n m := by omega
   obtain ⟨j, hj, hw⟩ := List.countP_pos_iff.1 h5
   have hj' := List.mem_range.1 hj
   have hs := h.word_sp hj'
   exact ⟨_, hs.1, hs.2.2, by simpa using hw⟩
 · intro v hv hs hw
   obtain ⟨j, hj, e⟩ := h.sp_word hv hs
   have hle : wt v ≤ n := by rw [wt, hv]; exact wtTo_le _ _
   rcases Nat.lt_or_ge (wt v) (distC F n m) with hlt | hge
   · have h4 := hl.2.2.2 (wt v) hw hlt
     rw [h.wts_count hle] at h4
     have h5 : 0 < (List.range (F.n ^ m.length)).countP fun j => wt (nthL (wordsTo F n m m.length) j) == wt v := List.countP_pos_iff.2 ⟨j, List.mem_range.2 hj, by rw [e]; simp⟩
     omega
   · exact hge
theorem GC.singleton (h : GC F n m) : distC F n m + m.length ≤ n + 1 := by
 have ok := h.good.ok
 obtain ⟨n2, _⟩ := ok.n_bd
 obtain ⟨pv, hE⟩ := h.ech
 have hm := h.m1
 have hr := Mat_nth h.mat (i := 0) (by omega)
 have hpl := hE.len
 have hs := Sp.row ok h.mat (j := 0) (by omega)
 have h1 : nth (nthL m 0) (pv.getD 0 0) = 1 := by rw [hE.one 0 0 (by omega) (by omega), if_pos rfl]
 have h2 : 1 ≤ wt (nthL m 0) := by
  rw [wt_wf hr.1]
  exact wf_one (hE.lt 0 (by omega)) (by omega)
 have h3 := h.dist_spec.2 _ hr.1 hs h2
 have h4 := wf_zeros (nth (nthL m 0)) n (Z := (List.range (m.length - 1)).map fun j => pv.getD (j + 1) 0) (by
  rw [List.Nodup, List.pairwise_map]
  refine List.Pairwise.imp_of_mem (fun {a b} ha hb hab => ?_) (List.pairwise_lt_range)
  have := hE.mono (a + 1) (b + 1) (by omega) (by have := List.mem_range.1 hb; omega)
  omega) fun i hi => by
   obtain ⟨j, hj, rfl⟩ := List.mem_map.1 hi
   have := List.mem_range.1 hj
   exact ⟨hE.lt _ (by omega), by rw [hE.one 0 (j + 1) (by omega) (by omega), if_neg (by omega)]⟩
 rw [List.length_map, List.length_range, ← wt_wf hr.1] at h4
 omega
theorem hasV_iff (h : GC F n m) {v : List Int} : hasV F n m v = true ↔ v.length = n ∧ (∀ x ∈ v, 0 ≤ x ∧ x < F.n) ∧ Sp F m (nth v) := by
 rw [hasV]
 by_cases e : v.length = n ∧ elems F.n v = true
 · have hv : v.length = n ∧ ∀ x ∈ v, 0 ≤ x ∧ x < F.n := ⟨e.1, fun x hx => elems_true.1 e.2 x hx⟩
   have hr := rank_iff h.good h.mat hv
   rw [h.fix] at hr
   rw [if_pos e, decide_eq_true_eq, hr]
   exact ⟨fun h => ⟨hv.1, hv.2, h⟩, fun h => h.2.2⟩
 · rw [if_neg e]
   refine ⟨fun h => by simp at h, fun h => absurd ⟨h.1, elems_true.2 h.2.1⟩ e⟩
end
end Go.Proofs.Ytgmgpcaahanmiaa
namespace Go.Proofs.Ytgmgpcaahanmiaa
open Go.RowKit
attribute [local go_sem ↓] Go.wp_at_zero Go.wp_at_succ
theorem l17Has_any (g : Nat) (F : FD) (ra : Option Addr) (rc : Nat) (m : List (List Int)) (b : Option Addr) (cb : Nat) (v : List Int) (n : Nat) (w : World) (hF : PF w g F) (hm : RdS w ra m) (hy : Rd w b v) (hC : GC F n m) (hvl : v.length = n) (hv : ∀ x ∈ v, 0 ≤ x ∧ x < F.n) :
    Calls Try.prog 142 #[.pointer (some ⟨g, 0, none⟩), .slice ra m.length rc, .slice b v.length cb] w fun e w' => e = .returned (.bool (decide ((form F (m ++ [v]) n).length = m.length))) ∧ Below w.heap.size w w' := by
 have hml := hm.len
 have hm1 := hC.m1
 have hm8 := hC.m8
 have hn1 := hC.n1
 have hMs := Mat_snoc hC.mat ⟨hvl, hv⟩
 have hcp := l17Own_any ra rc m w hm
 have hF1 := fun (a : Option Addr) (c : Nat) W (h : Below w.heap.size w W) (hx : RdS W a (m ++ [v])) => l17Form_any g F a c (m ++ [v]) n W (hF.below h) hC.good hx (by simp) hMs
 have hF2 := fun W (h : Below w.heap.size w W) => l17Form_any g F ra rc m n W (hF.below h) hC.good (hm.below h) hm1 hC.mat
 rw [hC.fix] at hF2
 have hfl : (form F (m ++ [v]) n).length ≤ 1073741824 := by
  have h1 := red_piv F (m ++ [v]) n
  have h2 := form_len F (m ++ [v]) n
  simp at h1
  omega
 obtain ⟨fm, hfm⟩ : ∃ fm, fm = form F (m ++ [v]) n := ⟨_, rfl⟩
 rw [← hfm] at hF1 hfl ⊢
 have hwl : (m ++ [v]).length = m.length + 1 := by simp
 rw [hwl] at hF1
 clear hwl
 have hvb : ∀ p, b = some p → p.block < w.heap.size := fun p hp => by
  obtain ⟨gb, ob, e, hgb, _⟩ := hy.at_ (by omega)
  rw [hp] at e
  injection e with e
  rw [e]
  exact hgb
 have HCP := hide hcp
 have HF1 := hide hF1
 have HF2 := hide hF2
 have HVB := hide hvb
 have HY := hide hy
 clear hcp hF1 hF2 hMs hfm hvb hy hm hF hC hv hvl
 go_enter Try.func142, Try.ntmps142
 go_wp2_with fail
 refine (unhide HCP).mono ?_
 rintro e w1 ⟨v1, rfl, o1, b1⟩
 obtain ⟨a1, c1, rfl, _⟩ := o1.form
 have z1 := b1.size
 have O1 := hide o1
 clear o1
 go_wp2_with (at_builtin; refine wpList_append_read rfl (.tmp 9) (.tmp 11) rfl rfl ((unhide O1).toH.belw ((Below.refl _ _).alloc (Nat.le_refl _) _) (Nat.le_refl _)) _ rfl ((Blk.new w1 22 #[.slice b v.length cb] rfl).cell 0) (((unhide HY).below b1).below ((Below.refl _ _).alloc (Nat.le_refl _) _)) (unhide HVB) (by simp; omega) (by omega) ?_; intro a2 c2 w2 r2 b2)
 have c2' : Below w.heap.size w w2 := (b1.alloc z1 _).trans b2
 refine (unhide HF1 a2 c2 w2 c2' r2).mono ?_
 rintro e w3 ⟨v3, rfl, o3, b3⟩
 obtain ⟨a3, c3, rfl, _⟩ := o3.form
 have c3' := c2'.trans (b3.mono c2'.size)
 go_wp2_with fail
 refine (unhide HF2 w3 c3').mono ?_
 rintro e w4 ⟨v4, rfl, o4, b4⟩
 obtain ⟨a4, c4, rfl, _⟩ := o4.form
 have c4' := c3'.trans (b4.mono c3'.size)
 clear o3 o4
 by_cases heq : fm.length = m.length
 · have hbe : ((fm.length : Int) == (m.length : Int)) = true := by rw [beq_iff_eq]; omega
   have hd := Lib.hid (show decide (fm.length = m.length) = true by rw [decide_eq_true_eq]; exact heq)
   have hbe2 : (fm.length == m.length) = true := by rw [beq_iff_eq]; omega
   clear heq
   go_wp2
   go_ret
   exact ⟨ret_bool (by rw [hd.out]), c4'⟩
 · have hbe : ((fm.length : Int) == (m.length : Int)) = false := by rw [beq_eq_false_iff_ne]; omega
   have hbe2 : (fm.length == m.length) = false := by rw [beq_eq_false_iff_ne]; omega
   have hd := Lib.hid (show decide (fm.length = m.length) = false by rw [decide_eq_false_iff_not]; exact heq)
   clear heq
   go_wp2
   go_ret
   exact ⟨ret_bool (by rw [hd.out]), c4'⟩
end Go.Proofs.Ytgmgpcaahanmiaa
namespace Go.Proofs.Ytgmgpcaahanmiaa
open Go.RowKit
attribute [local go_sem ↓] Go.wp_at_zero Go.wp_at_succ
theorem implCH_any (p d : Int) (a : Option Addr) (c : Nat) (xs : List Int) (ra : Option Addr) (rc : Nat) (m : List (List Int)) (b : Option Addr) (cb : Nat) (v : List Int) (w : World) (hx : Rd w a xs) (hm : RdS w ra m) (hy : Rd w b v) (ed : I64 d) : Calls Try.prog 24 #[.agg #[.int .i64 p, .int .i64 d, .slice a xs.length c, .slice ra m.length rc], .slice b v.length cb] w fun e w' => e = .returned (.bool (hasRes p d xs m v)) ∧ Below w.heap.size w w' := by
 have hml := hm.len
 have hvl0 := hy.len
 generalize hR : hasRes p d xs m v = r
 obtain ⟨W0, hHW⟩ : ∃ z, z = w.alloc (.cells #[.int .i64 p, .int .i64 d, .slice a xs.length c, .slice ra m.length rc] 37) := ⟨_, rfl⟩
 have b0 : Below w.heap.size w W0 := by rw [hHW]; exact (Below.refl _ _).alloc (Nat.le_refl _) _
 have k0 : Blk W0 w.heap.size 37 #[.int .i64 p, .int .i64 d, .slice a xs.length c, .slice ra m.length rc] := by rw [hHW]; exact Blk.new _ _ _ rfl
 have sk0 : w.heap.size < W0.heap.size := k0.lt
 have HW := Lib.hid hHW
 clear hHW
 have hV := implVC_any p d a c xs ra rc m W0 (hx.below b0) (hm.below b0) ed
 cases hk : okC p d xs m with
 | false =>
  have HN := Lib.hid (show r = false by rw [← hR, hasRes, hk]; rfl)
  rw [hk] at hV
  have HV := hide hV
  clear hV hk hR
  have f0 := k0.cell 0
  have f1 := k0.cell 1
  have f2 := k0.cell 2
  have f3 := k0.cell 3
  go_enter Try.func24, Try.ntmps24
  go_upto_region 1 with fail
  rw [← HW.out]
  go_wp2_with fail
  refine (unhide HV).mono ?_
  rintro e w1 ⟨rfl, b1⟩
  have k1 := k0.below b1 k0.lt
  clear f0 f1 f2 f3
  have f0 := k1.cell 0
  have f1 := k1.cell 1
  have f2 := k1.cell 2
  have f3 := k1.cell 3
  have bb1 := b0.trans (b1.mono (Nat.le_of_lt sk0))
  go_wp2
  go_ret
  exact ⟨ret_bool (by rw [HN.out]), bb1⟩
 | true =>
  obtain ⟨F, n, rfl, rfl, rfl, hC⟩ := okC_gc hk
  have hRR : r = hasV F n m v := by rw [← hR, hasRes, hk, fdR_eq, hC.hn]; rfl
  have hok := okC_okM hk
  rw [hk] at hV
  have hS := fun W (h : Below W0.heap.size W0 W) => spanHas_any F a c ra rc m b cb v n W ((hx.below b0).below h) ((hm.below b0).below h) ((hy.below b0).below h) hC hok ed
  have HV := hide hV
  have HS := hide hS
  have HRR := Lib.hid hRR
  clear hV hk hR hS hRR hok hC
  have f0 := k0.cell 0
  have f1 := k0.cell 1
  have f2 := k0.cell 2
  have f3 := k0.cell 3
  go_enter Try.func24, Try.ntmps24
  go_upto_region 1 with fail
  rw [← HW.out]
  go_wp2_with fail
  refine (unhide HV).mono ?_
  rintro e w1 ⟨rfl, b1⟩
  have k1 := k0.below b1 k0.lt
  clear f0 f1 f2 f3
  have f0 := k1.cell 0
  have f1 := k1.cell 1
  have f2 := k1.cell 2
  have f3 := k1.cell 3
  have bb1 := b0.trans (b1.mono (Nat.le_of_lt sk0))
  go_wp2_with fail
  refine (unhide HS w1 b1).mono ?_
  rintro e w2 ⟨rfl, b2⟩
  go_wp2
  go_ret
  exact ⟨ret_bool (by rw [HRR.out]), bb1.trans (b2.mono bb1.size)⟩
theorem specCH_any (p d : Int) (a : Option Addr) (c : Nat) (xs : List Int) (ra : Option Addr) (rc : Nat) (m : List (List Int)) (b : Option Addr) (cb : Nat) (v : List Int) (w : World) (hx : Rd w a xs) (hm : RdS w ra m) (hy : Rd w b v) : Calls Try.prog 54 #[.agg #[.int .i64 p, .int .i64 d, .slice a xs.length c, .slice ra m.length rc], .slice b v.length cb] w fun e w' => e = .returned (.bool (hasRes p d xs m v)) ∧ Below w.heap.size w w' := by
 have hml := hm.len
 have hvl0 := hy.len
 generalize hR : hasRes p d xs m v = r
 obtain ⟨W0, hHW⟩ : ∃ z, z = w.alloc (.cells #[.int .i64 p, .int .i64 d, .slice a xs.length c, .slice ra m.length rc] 37) := ⟨_, rfl⟩
 have b0 : Below w.heap.size w W0 := by rw [hHW]; exact (Below.refl _ _).alloc (Nat.le_refl _) _
 have k0 : Blk W0 w.heap.size 37 #[.int .i64 p, .int .i64 d, .slice a xs.length c, .slice ra m.length rc] := by rw [hHW]; exact Blk.new _ _ _ rfl
 have sk0 : w.heap.size < W0.heap.size := k0.lt
 have HW := Lib.hid hHW
 clear hHW
 have hC0 : PC W0 w.heap.size p d a c xs ra rc m := ⟨⟨k0.cell 0, k0.cell 1, k0.cell 2, hx.below b0⟩, k0.cell 3, hm.below b0⟩
 have hV := l18Ok_any w.heap.size p d a c xs ra rc m W0 hC0
 cases hk : okC p d xs m with
 | false =>
  have HN := Lib.hid (show r = false by rw [← hR, hasRes, hk]; rfl)
  rw [hk] at hV
  have HV := hide hV
  clear hV hk hR hC0
  have f0 := k0.cell 0
  have f1 := k0.cell 1
  have f2 := k0.cell 2
  have f3 := k0.cell 3
  go_enter Try.func54, Try.ntmps54
  go_upto_region 1 with fail
  rw [← HW.out]
  go_wp2_with fail
  refine (unhide HV).mono ?_
  rintro e w1 ⟨rfl, b1⟩
  have k1 := k0.below b1 k0.lt
  clear f0 f1 f2 f3
  have f0 := k1.cell 0
  have f1 := k1.cell 1
  have f2 := k1.cell 2
  have f3 := k1.cell 3
  have bb1 := b0.trans (b1.mono (Nat.le_of_lt sk0))
  go_wp2
  go_ret
  exact ⟨ret_bool (by rw [HN.out]), bb1⟩
 | true =>
  obtain ⟨F, n, rfl, rfl, rfl, hC⟩ := okC_gc hk
  have ok := hC.good.ok
  obtain ⟨n2, n64⟩ := ok.n_bd
  have hm1 := hC.m1
  have hm0 : 0 < m.length := by omega
  have hRR : r = if v.length = n ∧ elems F.n v = true then decide ((form F (m ++ [v]) n).length = m.length) else false := by rw [← hR, hasRes, hk, fdR_eq, hC.hn]; rfl
  obtain ⟨gb, ob, ai, ci, rfl, hr0, hgb⟩ := hC0.row0 hm1
  rw [hC.hn] at hr0
  rw [hk] at hV
  have HV := hide hV
  clear hV hk hR
  by_cases hle : v.length = n
  ·
   have hbq : ((v.length : Int) != (n : Int)) = false := by rw [hle]; simp
   have hE := fun W (h : Below W0.heap.size W0 W) => l17Vector_any w.heap.size F b cb v W (hC0.below h).1.pf ok ((hy.below b0).below h)
   cases he : elems F.n v with
   | false =>
    have HN := Lib.hid (show r = false by rw [hRR, if_neg (by rw [he]; simp)])
    rw [he] at hE
    have HE := hide hE
    clear hE he hRR hle hC hC0
    have f0 := k0.cell 0
    have f1 := k0.cell 1
    have f2 := k0.cell 2
    have f3 := k0.cell 3
    go_enter Try.func54, Try.ntmps54
    go_upto_region 1 with fail
    rw [← HW.out]
    go_wp2_with fail
    refine (unhide HV).mono ?_
    rintro e w1 ⟨rfl, b1⟩
    have k1 := k0.below b1 k0.lt
    clear f0 f1 f2 f3
    have f0 := k1.cell 0
    have f1 := k1.cell 1
    have f2 := k1.cell 2
    have f3 := k1.cell 3
    have bb1 := b0.trans (b1.mono (Nat.le_of_lt sk0))
    have hr1 := (b1.cell (p := ⟨gb, ob, none⟩) hgb).trans hr0
    go_wp2_with fail
    refine (unhide HE w1 b1).mono ?_
    rintro e w2 ⟨rfl, q2⟩
    have c2 := b1.trans (q2.below _)
    have bb2 := b0.trans (c2.mono (Nat.le_of_lt sk0))
    have k2 := k0.below c2 k0.lt
    clear f0 f1 f2 f3
    have f0 := k2.cell 0
    have f1 := k2.cell 1
    have f2 := k2.cell 2
    have f3 := k2.cell 3
    go_wp2
    go_ret
    exact ⟨ret_bool (by rw [HN.out]), bb2⟩
   | true =>
    have hEl := elems_iff he
    have hH := fun W (h : Below W0.heap.size W0 W) => l17Has_any w.heap.size F (some ⟨gb, ob, none⟩) rc m b cb v n W (hC0.below h).1.pf (hC0.below h).2.2 ((hy.below b0).below h) hC hle hEl
    rw [if_pos ⟨hle, he⟩] at hRR
    rw [he] at hE
    have HE := hide hE
    have HH := hide hH
    have HRR := Lib.hid hRR
    clear hE he hRR hle hC hC0 hH hEl
    have f0 := k0.cell 0
    have f1 := k0.cell 1
    have f2 := k0.cell 2
    have f3 := k0.cell 3
    go_enter Try.func54, Try.ntmps54
    go_upto_region 1 with fail
    rw [← HW.out]
    go_wp2_with fail
    refine (unhide HV).mono ?_
    rintro e w1 ⟨rfl, b1⟩
    have k1 := k0.below b1 k0.lt
    clear f0 f1 f2 f3
    have f0 := k1.cell 0
    have f1 := k1.cell 1
    have f2 := k1.cell 2
    have f3 := k1.cell 3
    have bb1 := b0.trans (b1.mono (Nat.le_of_lt sk0))
    have hr1 := (b1.cell (p := ⟨gb, ob, none⟩) hgb).trans hr0
    go_wp2_with fail
    refine (unhide HE w1 b1).mono ?_
    rintro e w2 ⟨rfl, q2⟩
    have c2 := b1.trans (q2.below _)
    have bb2 := b0.trans (c2.mono (Nat.le_of_lt sk0))
    have k2 := k0.below c2 k0.lt
    clear f0 f1 f2 f3
    have f0 := k2.cell 0
    have f1 := k2.cell 1
    have f2 := k2.cell 2
    have f3 := k2.cell 3
    go_wp2_with fail
    refine (unhide HH w2 c2).mono ?_
    rintro e w3 ⟨rfl, b3⟩
    go_wp2
    go_ret
    exact ⟨ret_bool (by rw [HRR.out]), bb2.trans (b3.mono bb2.size)⟩
  · have hbq : ((v.length : Int) != (n : Int)) = true := by rw [bne_iff_ne]; omega
    have HN := Lib.hid (show r = false by rw [hRR, if_neg (fun h => hle h.1)])
    clear hle hRR hC hC0
    have f0 := k0.cell 0
    have f1 := k0.cell 1
    have f2 := k0.cell 2
    have f3 := k0.cell 3
    go_enter Try.func54, Try.ntmps54
    go_upto_region 1 with fail
    rw [← HW.out]
    go_wp2_with fail
    refine (unhide HV).mono ?_
    rintro e w1 ⟨rfl, b1⟩
    have k1 := k0.below b1 k0.lt
    clear f0 f1 f2 f3
    have f0 := k1.cell 0
    have f1 := k1.cell 1
    have f2 := k1.cell 2
    have f3 := k1.cell 3
    have bb1 := b0.trans (b1.mono (Nat.le_of_lt sk0))
    have hr1 := (b1.cell (p := ⟨gb, ob, none⟩) hgb).trans hr0
    go_wp2
    go_ret
    exact ⟨ret_bool (by rw [HN.out]), bb1⟩
end Go.Proofs.Ytgmgpcaahanmiaa
namespace Go.Proofs.Ytgmgpcaahanmiaa
open Go.RowKit
attribute [local go_sem ↓] Go.wp_at_zero Go.wp_at_succ
def unit (k i : Nat) : List Int := (zeros k).set i 1
theorem unit_len (k i : Nat) : (unit k i).length = k := by rw [unit, List.length_set, zeros_len]
theorem unit_el (k i : Nat) : ∀ c ∈ unit k i, 0 ≤ c ∧ c ≤ 1000000 := by
 intro c hc
 rcases List.mem_or_eq_of_mem_set hc with h | h
 · rw [zeros, List.mem_replicate] at h; omega
 · omega
def rsRows (F : FD) (k n m : Nat) : List (List Int) := (List.range m).map fun i => vals F (unit k i) n
theorem rsRows_len (F : FD) (k n m : Nat) : (rsRows F k n m).length = m := by simp [rsRows]
theorem rsRows_succ (F : FD) (k n m : Nat) : rsRows F k n (m + 1) = rsRows F k n m ++ [vals F (unit k m) n] := by simp [rsRows, List.range_succ]
theorem vals_el {F : FD} (ok : F.Ok) (msg : List Int) (n : Nat) : ∀ x ∈ vals F msg n, 0 ≤ x ∧ x < F.n := by
 intro x hx
 obtain ⟨i, _, rfl⟩ := List.mem_map.1 hx
 cases msg with
 | nil => exact ⟨Int.le_refl _, by have := ok.n_bd; show (0 : Int) < _; omega⟩
 | cons c cs =>
  have h := lin_range (show 0 < F.p by have := ok.p2; omega) 1 F.k (mulF F.p F.k F.poly (valF F i cs) i) c
  rw [ok.n_eq] at h
  exact h
theorem rsRows_Mat {F : FD} (ok : F.Ok) (k n m : Nat) : F.Mat n (rsRows F k n m) := by
 intro xs hx
 obtain ⟨i, _, rfl⟩ := List.mem_map.1 hx
 exact ⟨vals_len _ _ _, vals_el ok _ _⟩
theorem fdOf_good {q : Int} (h : isField q = true) : (fdOf q).Good := by
 obtain ⟨ok, hq, hs⟩ := fdOf_ok h
 exact ⟨ok, by rw [hq]; exact hs⟩
def rsRes (q k n : Int) : Int × Int × List Int × List (List Int) × Int :=
 if rsCode q k n = 0 then mkC (fdOf q) (form (fdOf q) (rsRows (fdOf q) k.toNat n.toNat k.toNat) n.toNat) else (0, 0, [], [], rsCode q k n)
theorem rsCode_zero {q k n : Int} (h : rsCode q k n = 0) : isField q = true ∧ 2 ≤ q ∧ q ≤ 64 ∧ 1 ≤ n ∧ n ≤ 32 ∧ 1 ≤ k ∧ k ≤ 8 ∧ k ≤ n ∧ capTo q 4096 k.toNat ≤ 4096 := by
 unfold rsCode at h
 by_cases hl : lenOk q n = true
 · obtain ⟨hf, h2, h64, hn1, hn2⟩ := lenOk_true hl
   rw [if_pos hl] at h
   by_cases hk : inB k 1 n = true
   · obtain ⟨hk1, hk2⟩ := inB_true.1 hk
     rw [if_pos hk] at h
     by_cases h8 : 8 < k
     · rw [if_pos h8] at h; omega
     · rw [if_neg h8] at h
       by_cases hc : 4096 < capTo q 4096 k.toNat
       · rw [if_pos hc] at h; omega
       · exact ⟨hf, h2, h64, hn1, hn2, hk1, by omega, hk2, by omega⟩
   · rw [if_neg hk] at h; omega
 · rw [if_neg hl] at h; omega
theorem implRS_any (q k n : Int) (w : World) (e0 : I64 k) : Calls Try.prog 26 #[.int .i64 q, .int .i64 k, .int .i64 n] w (ResC w (rsRes q k n)) := by
 obtain ⟨W0, hHW⟩ : ∃ z, z = w.alloc (.cells #[.int .i64 0, .int .i64 0, .slice none 0 0, .slice none 0 0] 37) := ⟨_, rfl⟩
 have b0 : Below w.heap.size w W0 := by rw [hHW]; exact (Below.refl _ _).alloc (Nat.le_refl _) _
 have k0 : Blk W0 w.heap.size 37 #[.int .i64 0, .int .i64 0, .slice none 0 0, .slice none 0 0] := by rw [hHW]; exact Blk.new _ _ _ rfl
 have sk0 : w.heap.size < W0.heap.size := k0.lt
 have HW := Lib.hid hHW
 clear hHW
 have hL := polynomialCode_any q k n W0 e0
 unfold rsRes
 obtain ⟨c, hc⟩ : ∃ c, rsCode q k n = c := ⟨_, rfl⟩
 rw [hc] at hL ⊢
 by_cases h0 : c = 0
 ·
  subst h0
  obtain ⟨hf, h2, h64, hn1, hn2, hk1, hk2, hkn, hcap⟩ := rsCode_zero hc
  rw [if_pos rfl]
  have hG := fdOf_good hf
  have ok := hG.ok
  obtain ⟨K, rfl⟩ := Int.eq_ofNat_of_zero_le (show 0 ≤ k by omega)
  obtain ⟨N, rfl⟩ := Int.eq_ofNat_of_zero_le (show 0 ≤ n by omega)
  rw [Int.toNat_natCast, Int.toNat_natCast]
  generalize fdOf q = F at hL hG ok ⊢
  have HL := hide hL
  have hmk := fun W => run_make_row' (P := Try.prog) 22 2 (.int .i64 0) 8 Try.underlying22 Try.info_i64 rfl .i64 .i64 K (by omega) (by omega) W
  clear hL hc hcap hf e0
  go_enter Try.func26, Try.ntmps26
  go_wp2_with fail
  rw [← HW.out]
  refine (unhide HL).mono ?_
  rintro e w1 ⟨v1, rfl, o1, b1⟩
  rw [if_pos rfl, if_pos rfl]
  rw [if_pos rfl] at o1
  obtain ⟨a1, c1, rfl, r1, _⟩ := o1.form
  obtain ⟨W1, hHF⟩ : ∃ z, z = w1.alloc (.cells #[.int .i64 F.p, .int .i64 F.k, .slice a1 F.poly.length c1] 34) := ⟨_, rfl⟩
  have bF : Below w1.heap.size w1 W1 := by rw [hHF]; exact (Below.refl _ _).alloc (Nat.le_refl _) _
  have kF : Blk W1 w1.heap.size 34 #[.int .i64 F.p, .int .i64 F.k, .slice a1 F.poly.length c1] := by rw [hHF]; exact Blk.new _ _ _ rfl
  have skF : w1.heap.size < W1.heap.size := kF.lt
  have HF := Lib.hid hHF
  clear hHF
  have hR1 := r1.below bF
  have b1x := Below.chain b1 bF
  have hb1 := b0.trans (b1x.mono (Nat.le_of_lt sk0))
  have k1 := k0.below b1x k0.lt
  have z1 := b1x.size
  have z1' : w.heap.size ≤ W1.heap.size := by omega
  clear r1 o1 b1 bF
  go_upto_region 2 with fail
  rw [← HF.out]
  go_wp2_with fail
  go_loopw [10, 25] (fun v iv wr => ∃ m : Nat, iv = .int .i64 m ∧ m ≤ K ∧ Hid (OwnS wr W1.heap.size v (rsRows F K N m)) ∧ Below W1.heap.size W1 wr) (fun _ iv _ => K - (intOf iv).toNat)
  case atStart => exact ⟨0, rfl, Nat.zero_le _, OwnS.nil _ _, Below.refl _ _⟩
  case round =>
   obtain ⟨m, rfl, hm, ho, hb⟩ := hrel
   have hsz := hb.size
   by_cases hmk' : m < K
   ·
    have hml : (rsRows F K N m).length = m := rsRows_len _ _ _ _
    have HML := Lib.hid hml
    clear hml
    go_upto_region 9 with fail
    obtain ⟨W2, hW2⟩ : ∃ z, z = wr.alloc (.cells (madeCells #[.int .i64 0] K) 2) := ⟨_, rfl⟩
    have oz : Own W2 wr.heap.size (.slice (some ⟨wr.heap.size, 0, none⟩) K K) (zeros K) := by rw [hW2]; exact Own.zeros wr (Nat.le_refl _) (by omega)
    have bz : Below wr.heap.size wr W2 := by rw [hW2]; exact (Below.refl _ _).alloc (Nat.le_refl _) _
    have oc := oz.cell (j := m) (by rw [zeros_len]; exact hmk')
    have of_ := oz.frozen m
    have ou := (oz.set m 1).1
    have bu : Below wr.heap.size wr (W2.setCell ⟨wr.heap.size, m, none⟩ (.int .i64 1)) := bz.setCell (Nat.le_refl _) _
    rw [← hW2]
    clear hW2 oz bz
    go_upto_region 10 with fail
    obtain ⟨W3, hW3⟩ : ∃ z, z = W2.setCell ⟨wr.heap.size, m, none⟩ (.int .i64 1) := ⟨_, rfl⟩
    rw [← hW3] at ou bu ⊢
    have s3 := bu.size
    clear hW3 oc of_
    have hb3 := hb.trans (bu.mono hsz)
    have hu : (unit K m).length = K := unit_len K m
    have hv := polynomialWord_any F a1 c1 (some ⟨wr.heap.size, 0, none⟩) K (unit K m) N W3 (hR1.below hb3) ok ou.rd (by omega) (by rw [hu]; omega) (unit_el K m)
    rw [hu] at hv
    have HV := hide hv
    have kF3 := kF.below hb3 kF.lt
    have e0 := kF3.cell 0
    have e1 := kF3.cell 1
    have e2 := kF3.cell 2
    clear hv hu ou
    go_wp2_with fail
    refine (unhide HV).mono ?_
    rintro e w4 ⟨v4, rfl, o4, b4⟩
    obtain ⟨a4, c4, rfl, _, _⟩ := o4.form
    clear e0 e1 e2
    have hb4 := hb3.trans (b4.mono (by omega))
    have s4 := b4.size
    have HRS := Lib.hid (rsRows_succ F K N m)
    have hH := (ho.out.toH.belw bu (Nat.le_refl _)).belw b4 s3
    go_wp2_with (at_builtin; refine wpList_append_row rfl (.tmp 33) (.tmp 38) rfl (v := u10) rfl (hH.belw ((Below.refl _ _).alloc (Nat.le_refl _) _) (by omega)) _ rfl ((Blk.new w4 22 #[.slice a4 (vals F (unit K m) N).length c4] rfl).cell 0) ((o4.alloc _).mono (Nat.le_trans s3 (Nat.le_refl _))) hsz (by simp; omega) (by rw [HML.out]; omega) ?_; intro v2 w2 o2 g2 _)
    go_roundw
    case rel =>
     refine ⟨m + 1, by go_num, by omega, ?_, Below.stepS (hb4.alloc (by omega) _) g2 (hH.belw ((Below.refl _ _).alloc (Nat.le_refl _) _) (by omega)).own (Nat.le_refl _) (by simp; omega)⟩
     show OwnS _ _ _ _
     rw [HRS.out]
     exact o2
    case measure => simp only [intOf]; omega
   ·
    have hme : m = K := by omega
    have HE := Lib.hid hme
    clear hme
    have rsM := rsRows_Mat (F := F) ok K N K
    have o5 := ho.out
    rw [HE.out] at o5
    have hrl := rsRows_len F K N K
    obtain ⟨ra, rc, e5, r5⟩ := o5.form
    obtain ⟨rows, hrows⟩ : ∃ rows, rows = rsRows F K N K := ⟨_, rfl⟩
    rw [← hrows] at rsM o5 hrl e5 r5 ⊢
    subst e5
    have hCo := codeOf_any F a1 c1 ra rc rows N wr (hR1.below hb) hG r5 (by omega) rsM
    have HCO := hide hCo
    have HRL := Lib.hid hrl
    have HROWS := Lib.hid hrows
    have kFr := kF.below hb kF.lt
    have e0 := kFr.cell 0
    have e1 := kFr.cell 1
    have e2 := kFr.cell 2
    clear hCo hrows hrl rsM
    go_wp2_with fail
    refine (unhide HCO).mono ?_
    rintro e w4 ⟨v4, u4, rfl, o4, b4⟩
    clear e0 e1 e2
    obtain ⟨rr, hrr⟩ : ∃ rr, rr = mkC F (form F rows N) := ⟨_, rfl⟩
    rw [← hrr] at o4 ⊢
    obtain ⟨rp, rd, rx, ry, rz⟩ := rr
    simp only [] at o4 ⊢
    obtain ⟨a4, c4, p4, d4, rfl, rfl, _, _⟩ := o4.form
    have z4 := b4.size
    have HRR := Lib.hid hrr
    have hb4 := hb1.trans ((hb.trans (b4.mono (by omega))).mono z1')
    have k4 := (k1.below hb k1.lt).below b4 (by have := k1.lt; omega)
    have f0 := k4.cell 0
    have f1 := k4.cell 1
    have f2 := k4.cell 2
    have f3 := k4.cell 3
    have g0 := k4.frozen 0
    have g1 := k4.frozen 1
    have g2 := k4.frozen 2
    have g3 := k4.frozen 3
    clear hrr
    go_wp2
    have p3 : w.heap.size < wr.heap.size := by omega
    refine bodyPost_ret (results_cell_tmp_row rfl _ _ w.heap.size 37 #[.int .i64 rp, .int .i64 rd, .slice a4 rx.length c4, .slice p4 ry.length d4] _ rfl (k4.b4.store _ _ _ _) Try.underlying37 rfl (by kernel_rfl)) rfl ?_
    show ResC w (mkC F (form F (rsRows F K N K) N)) _ _
    rw [← HROWS.out, ← HRR.out]
    refine ⟨_, _, rfl, ?_, Below.set4 hb4 (Nat.le_refl _) _ _ _ _⟩
    exact ((((o4.storeBelow p3 _).storeBelow p3 _).storeBelow p3 _).storeBelow p3 _).mono (by omega)
 ·
  rw [if_neg h0]
  have hcn : (c != 0) = true := by rw [bne_iff_ne]; exact h0
  have h0' := hide h0
  have HL := hide hL
  clear hL h0 hc
  go_enter Try.func26, Try.ntmps26
  go_wp2_with fail
  rw [← HW.out]
  refine (unhide HL).mono ?_
  rintro e w1 ⟨v1, rfl, o1, b1⟩
  rw [if_neg (unhide h0'), if_neg (unhide h0')]
  rw [if_neg (unhide h0')] at o1
  obtain ⟨a1, c1, rfl, r1, _⟩ := o1.form
  obtain ⟨W1, hHF⟩ : ∃ z, z = w1.alloc (.cells #[.int .i64 0, .int .i64 0, .slice a1 0 c1] 34) := ⟨_, rfl⟩
  have bF : Below w1.heap.size w1 W1 := by rw [hHF]; exact (Below.refl _ _).alloc (Nat.le_refl _) _
  have kF : Blk W1 w1.heap.size 34 #[.int .i64 0, .int .i64 0, .slice a1 0 c1] := by rw [hHF]; exact Blk.new _ _ _ rfl
  have skF : w1.heap.size < W1.heap.size := kF.lt
  have HF := Lib.hid hHF
  clear hHF
  have b1x := Below.chain b1 bF
  have hb1 := b0.trans (b1x.mono (Nat.le_of_lt sk0))
  have k1 := k0.below b1x k0.lt
  go_upto_region 2 with fail
  rw [← HF.out]
  have f0 := k1.cell 0
  have f1 := k1.cell 1
  have f2 := k1.cell 2
  have f3 := k1.cell 3
  have g0 := k1.frozen 0
  have g1 := k1.frozen 1
  have g2 := k1.frozen 2
  have g3 := k1.frozen 3
  go_wp2
  refine bodyPost_ret (results_cell_tmp_row rfl _ _ w.heap.size 37 #[.int .i64 0, .int .i64 0, .slice none 0 0, .slice none 0 0] _ rfl (k1.b4.store _ _ _ _) Try.underlying37 rfl (by kernel_rfl)) rfl ?_
  exact ⟨_, _, rfl, OwnC.nil _ _, Below.set4 hb1 (Nat.le_refl _) _ _ _ _⟩
end Go.Proofs.Ytgmgpcaahanmiaa
