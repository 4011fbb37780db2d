/-
  Texts joined.
-/
import Derived.Test.YtgmgpcaahanmiaaY5
import Derived.Test.YtgmgpcaahanmiaaY8
import Derived.Test.YtgmgpcaahanmiaaY19
import Derived.Test.YtgmgpcaahanmiaaY24
set_option linter.unusedVariables false
set_option linter.unusedSimpArgs false
set_option maxRecDepth 100000
set_option maxHeartbeats 40000000
namespace Go.Proofs.Ytgmgpcaahanmiaa
open Go.RowKit
attribute [local go_sem ↓] Go.wp_at_zero Go.wp_at_succ
theorem l03Has_any (g : Nat) (F : FD) (a b : Int) (w : World) (hF : PF w g F) (hG : F.Good) (ha : 0 ≤ a ∧ a < F.n) (hb : 0 ≤ b ∧ b < F.n) :
    Calls Try.prog 130 #[.pointer (some ⟨g, 0, none⟩), .int .i64 a, .int .i64 b] w fun e w' => e = .returned (.bool true) ∧ Below w.heap.size w w' := by
 have ok := hG.ok
 obtain ⟨n2, n64⟩ := ok.n_bd
 obtain ⟨fa, fc, h2, h3⟩ := hF.2.2
 have hok := l03Ok_any g F.p F.k fa fc F.poly w ⟨hF.1, hF.2.1, h2, h3⟩
 rw [hG.okF] at hok
 have hsz := fun W (h : Below w.heap.size w W) => l03Size_any g F W (hF.below h) ok
 have HOK := hide hok
 have HSZ := hide hsz
 clear hok hsz h2 h3 hF
 go_enter Try.func130, Try.ntmps130
 go_wp2_with fail
 refine (unhide HOK).mono ?_
 rintro e w1 ⟨rfl, b1⟩
 go_wp2_with fail
 refine (unhide HSZ _ b1).mono ?_
 rintro e w2 ⟨rfl, b2⟩
 have d2 := Below.chain b1 b2
 go_wp2_with fail
 refine (l00In_any a 0 ((F.n : Int) - 1) w2).mono ?_
 rintro e w3 ⟨rfl, rfl⟩
 rw [inB_true.2 ⟨ha.1, by omega⟩]
 go_wp2_with fail
 refine (unhide HSZ _ d2).mono ?_
 rintro e w4 ⟨rfl, b4⟩
 have d4 := Below.chain d2 b4
 go_wp2_with fail
 refine (l00In_any b 0 ((F.n : Int) - 1) w4).mono ?_
 rintro e w5 ⟨rfl, rfl⟩
 rw [inB_true.2 ⟨hb.1, by omega⟩]
 go_wp2
 go_ret
 exact ⟨rfl, d4⟩
theorem fieldAdd_any (F : FD) (fa : Option Addr) (fc : Nat) (a b : Int) (w : World) (hF : Rd w fa F.poly) (hG : F.Good) (ha : 0 ≤ a ∧ a < F.n) (hb : 0 ≤ b ∧ b < F.n) :
    Calls Try.prog 44 #[.agg #[.int .i64 F.p, .int .i64 F.k, .slice fa F.poly.length fc], .int .i64 a, .int .i64 b] w fun e w' => e = .returned (.int .i64 (F.add a b)) ∧ Below w.heap.size w w' := by
 have ok := hG.ok
 obtain ⟨n2, n64⟩ := ok.n_bd
 obtain ⟨W0, hW0⟩ : ∃ W0, W0 = w.alloc (.cells #[.int .i64 F.p, .int .i64 F.k, .slice fa F.poly.length fc] 34) := ⟨_, rfl⟩
 have b0 : Below w.heap.size w W0 := by rw [hW0]; exact (Below.refl _ _).alloc (Nat.le_refl _) _
 have hP : PF W0 w.heap.size F := by rw [hW0]; exact PF.box hF
 have HH := hide (l03Has_any w.heap.size F a b W0 hP hG ha hb)
 have hs := fun W (h : Below W0.heap.size W0 W) => l03Sum_any w.heap.size F a b 1 W (hP.below h) ok ha.1 (by omega) hb.1 (by omega) (by omega) (by omega)
 have HS := hide hs
 have HW := Lib.hid hW0
 clear hW0 hP hs hF
 go_enter Try.func44, Try.ntmps44
 go_upto_region 1 with fail
 rw [← HW.out]
 go_wp2_with fail
 refine (unhide HH).mono ?_
 rintro e w1 ⟨rfl, b1⟩
 go_wp2_with fail
 refine (unhide HS _ b1).mono ?_
 rintro e w2 ⟨rfl, b2⟩
 go_wp2
 go_ret
 exact ⟨rfl, Below.chain (Below.chain b0 b1) b2⟩
theorem fieldMul_any (F : FD) (fa : Option Addr) (fc : Nat) (a b : Int) (w : World) (hF : Rd w fa F.poly) (hG : F.Good) (ha : 0 ≤ a ∧ a < F.n) (hb : 0 ≤ b ∧ b < F.n) :
    Calls Try.prog 45 #[.agg #[.int .i64 F.p, .int .i64 F.k, .slice fa F.poly.length fc], .int .i64 a, .int .i64 b] w fun e w' => e = .returned (.int .i64 (F.mul a b)) ∧ Below w.heap.size w w' := by
 have ok := hG.ok
 obtain ⟨n2, n64⟩ := ok.n_bd
 obtain ⟨W0, hW0⟩ : ∃ W0, W0 = w.alloc (.cells #[.int .i64 F.p, .int .i64 F.k, .slice fa F.poly.length fc] 34) := ⟨_, rfl⟩
 have b0 : Below w.heap.size w W0 := by rw [hW0]; exact (Below.refl _ _).alloc (Nat.le_refl _) _
 have hP : PF W0 w.heap.size F := by rw [hW0]; exact PF.box hF
 have HH := hide (l03Has_any w.heap.size F a b W0 hP hG ha hb)
 have hs := fun W (h : Below W0.heap.size W0 W) => l03Mul_any w.heap.size F a b W (hP.below h) ok ha.1 (by omega) hb.1 (by omega)
 have HS := hide hs
 have HW := Lib.hid hW0
 clear hW0 hP hs hF
 go_enter Try.func45, Try.ntmps45
 go_upto_region 1 with fail
 rw [← HW.out]
 go_wp2_with fail
 refine (unhide HH).mono ?_
 rintro e w1 ⟨rfl, b1⟩
 go_wp2_with fail
 refine (unhide HS _ b1).mono ?_
 rintro e w2 ⟨rfl, b2⟩
 go_wp2
 go_ret
 exact ⟨rfl, Below.chain (Below.chain b0 b1) b2⟩
end Go.Proofs.Ytgmgpcaahanmiaa
