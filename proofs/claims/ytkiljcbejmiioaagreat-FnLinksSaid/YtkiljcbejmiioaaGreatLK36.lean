/-
  Texts joined.
-/
import Derived.Deep.DeepCutAuto
import Derived.Deep.DrawnRows
import Derived.Deep.RegionHeld3
import Derived.Test.YtkiljcbejmiioaaGreatLK1
import Derived.Test.YtkiljcbejmiioaaGreatLK5
import Derived.Test.YtkiljcbejmiioaaGreatLK8
set_option linter.unusedVariables false
set_option linter.unusedSimpArgs false
set_option maxRecDepth 100000
set_option maxHeartbeats 40000000
namespace Go.Proofs.YtkiljcbejmiioaaGreat
open Go.RowKit
attribute [local go_sem ↓] Go.wp_at_zero Go.wp_at_succ
def Src (w : World) (g T : Nat) : Prop := ∃ (a : Option Addr) (c : Nat) (bs : List Int) (k : Nat) (s : Int),
 Blk w g 86 #[.slice a bs.length c, .int .i64 k, .int .u64 s] ∧ RdB w a bs ∧ (0 < bs.length → ∀ b off, a = some ⟨b, off, none⟩ → b < g) ∧ k ≤ T ∧ 0 ≤ s ∧ s < 18446744073709551616
section
variable {w w' : World} {g T : Nat}
theorem Src.lt (h : Src w g T) : g < w.heap.size := by
 obtain ⟨_, _, _, _, _, hb, _⟩ := h
 exact hb.lt
theorem Src.mono (h : Src w g T) {T' : Nat} (hT : T ≤ T') : Src w g T' := by
 obtain ⟨a, c, bs, k, s, h1, h2, h3, h4, h5⟩ := h
 exact ⟨a, c, bs, k, s, h1, h2, h3, by omega, h5⟩
theorem RdB.kp {a : Option Addr} {bs : List Int} (h : RdB w a bs) (hg : 0 < bs.length → ∀ b off, a = some ⟨b, off, none⟩ → b < g) (k : Kp w w' 0 g) : RdB w' a bs :=
 ⟨h.1, h.2.1, fun h0 => by
  obtain ⟨b, off, e, hb, hc⟩ := h.at_ h0
  exact ⟨b, off, e, fun i hi => (cell_block (k.2 b (Nat.zero_le _) (hg h0 b off e)) _).trans (hc i hi)⟩⟩
theorem Src.kp (h : Src w g T) (k : Kp w w' 0 (g + 1)) : Src w' g T := by
 obtain ⟨a, c, bs, k', s, h1, h2, h3, h4, h5⟩ := h
 exact ⟨a, c, bs, k', s, h1.kp (k.sub (Nat.zero_le _) (Nat.le_refl _)), h2.kp h3 (k.sub (Nat.le_refl _) (Nat.le_succ _)), h3, h4, h5⟩
theorem Src.below (h : Src w g T) (hb : Below w.heap.size w w') : Src w' g T := h.kp (Kp.below hb h.lt)
theorem Kp.setC1 (w : World) (g i : Nat) (v : Value) : Kp w (w.setCell ⟨g, i, none⟩ v) 0 g := ⟨by simp, fun b _ hb => Below.heap_setCell w _ _ b (by show b ≠ g; omega)⟩
theorem Mk.setC1 (w : World) (g i : Nat) (v : Value) : Mk w (w.setCell ⟨g, i, none⟩ v) g (g + 1) := ⟨(Below.refl g w).setCell (p := ⟨g, i, none⟩) (Nat.le_refl g) v, fun b hb _ => Below.heap_setCell w _ _ b (by show b ≠ g; omega)⟩
theorem Src.set (h : Src w g T) {k : Nat} {x : Int} (hk : w.cell? ⟨g, 1, none⟩ = some (.int .i64 k)) (h0 : 0 ≤ x) (h1 : x < 18446744073709551616) :
    Src ((w.setCell ⟨g, 1, none⟩ (.int .i64 ((k + 1 : Nat) : Int))).setCell ⟨g, 2, none⟩ (.int .u64 x)) g (T + 1) := by
 obtain ⟨a, c, bs, k', s', b1, b2, b3, b4, b5⟩ := h
 have e : (k' : Int) = k := by
  have := b1.cell 1
  rw [hk] at this
  simp at this
  exact this.symm
 have e2 : k' = k := Int.ofNat_inj.1 e
 subst e2
 refine ⟨a, c, bs, k' + 1, x, ?_, (b2.kp b3 (Kp.setC1 _ _ _ _)).kp b3 (Kp.setC1 _ _ _ _), b3, by omega, h0, h1⟩
 have := (b1.set_ 1 (.int .i64 ((k' + 1 : Nat) : Int))).set_ 2 (.int .u64 x)
 simpa using this
end
theorem u64_wrap (x : Int) : 0 ≤ IntKind.u64.wrap x ∧ IntKind.u64.wrap x < 18446744073709551616 := by
 have h : IntKind.u64.wrap x = x % 18446744073709551616 := by simp [IntKind.wrap, IntKind.bits, IntKind.signed]
 rw [h]
 omega
theorem and_255 (y : Int) (h0 : 0 ≤ y) (h1 : y ≤ 18446744073709551615) : ∃ x : Nat, wrap64 (bits BinOp.and IntKind.u64 y 255) = (x : Int) ∧ x ≤ 255 := by
 have h := bits_and_u64_nat y.toNat 255 (by omega) (by omega)
 rw [Int.toNat_of_nonneg h0] at h
 refine ⟨y.toNat &&& 255, ?_, Nat.and_le_right⟩
 have hle : y.toNat &&& 255 ≤ 255 := Nat.and_le_right
 rw [show (255 : Int) = ((255 : Nat) : Int) from rfl, h, IntWalk.wrap64_in _ (by omega)]
theorem next_fin {w : World} {g T : Nat} (h : Src w g T) {k : Nat} (hk : w.cell? ⟨g, 1, none⟩ = some (.int .i64 k)) (x : Int) (a b : Nat) :
    Src ((((w.drewN a).setCell ⟨g, 1, none⟩ (.int .i64 ((k : Int) + 1))).setCell ⟨g, 2, none⟩ (.int .u64 (IntKind.u64.wrap x))).drewN b) g (T + 1) ∧
    Mk w ((((w.drewN a).setCell ⟨g, 1, none⟩ (.int .i64 ((k : Int) + 1))).setCell ⟨g, 2, none⟩ (.int .u64 (IntKind.u64.wrap x))).drewN b) g (g + 1) := by
 have hx := u64_wrap x
 have ha : Mk w (w.drewN a) g (g + 1) := Mk.alloc (Below.drewn a) (by have := h.lt; omega)
 have h1 := (h.below (Below.drewn a)).set (x := IntKind.u64.wrap x) (by simpa using hk) hx.1 hx.2
 have m := (ha.trans (Mk.setC1 _ g 1 (.int .i64 ((k + 1 : Nat) : Int)))).trans (Mk.setC1 _ g 2 (.int .u64 (IntKind.u64.wrap x)))
 exact ⟨h1.below (Below.drewn b), m.trans (Mk.alloc (Below.drewn b) (by have := h1.lt; omega))⟩
theorem next_any (g T : Nat) (w : World) (h : Src w g T) (hT : T ≤ 1000000000000) :
    Calls Tryz.prog 105 #[.pointer (some ⟨g, 0, none⟩)] w fun e w' => ∃ x : Nat, e = .returned (.int .i64 x) ∧ x ≤ 255 ∧ Src w' g (T + 1) ∧ Mk w w' g (g + 1) := by
 have HS := hide h
 obtain ⟨a, c, bs, k, s, hb, hr, hg, hk, hs, hs2⟩ := h
 have c0 := hb.cell 0
 have c1 := hb.cell 1
 have c2 := hb.cell 2
 have f1 := hb.frozen 1
 have f2 := hb.frozen 2
 have hl := hr.1
 by_cases hkl : k < bs.length
 · obtain ⟨b, off, rfl, hbb, hc⟩ := hr.at_ (by omega)
   have cb := hc k hkl
   have he := hr.el hkl
   obtain ⟨x, hx⟩ := Int.eq_ofNat_of_zero_le he.1
   rw [hx] at cb he
   clear hr hg hc hx
   go_enter Tryz.func105, Tryz.ntmps105
   go_upto_region 2 with fail
   go_quiet (fail)
   go_upto_region 3 with fail
   go_quiet (fail)
   go_upto_region 6 with fail
   go_quiet (fail)
   go_wp2
   go_ret
   exact ⟨x, rfl, by omega, next_fin (unhide HS) c1 _ _ _⟩
 · clear hr hg
   go_enter Tryz.func105, Tryz.ntmps105
   go_upto_region 2 with fail
   go_quiet (fail)
   go_upto_region 6 with fail
   go_quiet (fail)
   go_wp2
   go_ret
   obtain ⟨x, hx, hle⟩ := and_255 (IntKind.u64.wrap (IntKind.u64.wrap (IntKind.u64.wrap (s * 6364136223846793005)) + 1442695040888963407) / 1099511627776)
    (by have := u64_wrap (IntKind.u64.wrap (IntKind.u64.wrap (s * 6364136223846793005)) + 1442695040888963407); omega) (by have := u64_wrap (IntKind.u64.wrap (IntKind.u64.wrap (s * 6364136223846793005)) + 1442695040888963407); omega)
   refine ⟨x, ?_, hle, next_fin (unhide HS) c1 _ _ _⟩
   rw [← hx]
   rfl
end Go.Proofs.YtkiljcbejmiioaaGreat
namespace Go.Proofs.YtkiljcbejmiioaaGreat
open Go.RowKit
theorem v8Long_any (a b : Option Addr) (c d n m : Nat) (w : World) (hn : n ≤ maxLen) (hm : m ≤ maxLen) : Calls Tryz.prog 4 #[.slice a n c, .slice b m d] w fun e w' => e = .returned (.bool (decide (1048576 < n) || decide (1048576 < m))) ∧ w = w' := by
 have hn : n ≤ 9223372036854775807 := by unfold maxLen at hn; omega
 have hm : m ≤ 9223372036854775807 := by unfold maxLen at hm; omega
 go_enter Tryz.func4, Tryz.ntmps4
 by_cases h : 1048576 < n
 · have h2 : (1048576 : Int) < n := by omega
   rw [show decide (1048576 < n) = true from decide_eq_true h]
   go_wp2
   go_ret
   exact ⟨ret_bool rfl, rfl⟩
 · have h2 : ¬ (1048576 : Int) < n := by omega
   rw [show decide (1048576 < n) = false from decide_eq_false h]
   by_cases h3 : 1048576 < m
   · have h4 : (1048576 : Int) < m := by omega
     rw [show decide (1048576 < m) = true from decide_eq_true h3]
     go_wp2
     go_ret
     exact ⟨ret_bool (by simp [h4]), rfl⟩
   · have h4 : ¬ (1048576 : Int) < m := by omega
     rw [show decide (1048576 < m) = false from decide_eq_false h3]
     go_wp2
     go_ret
     exact ⟨ret_bool (by simp [h4]), rfl⟩
end Go.Proofs.YtkiljcbejmiioaaGreat
