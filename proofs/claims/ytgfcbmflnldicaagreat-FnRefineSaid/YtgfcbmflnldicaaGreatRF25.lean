/-
  Texts joined.
-/
import Derived.Deep.DeepCutAuto
import Derived.Deep.DrawnRows
import Derived.Deep.RegionHeld3
import Derived.Test.YtgfcbmflnldicaaGreatRF1
import Derived.Test.YtgfcbmflnldicaaGreatRF24
set_option linter.unusedVariables false
set_option linter.unusedSimpArgs false
set_option maxRecDepth 100000
set_option maxHeartbeats 40000000
namespace Go.Proofs.YtgfcbmflnldicaaGreat
open Go.RowKit
attribute [local go_sem ↓] Go.wp_at_zero Go.wp_at_succ
def Src (w : World) (g T : Nat) : Prop := ∃ (a : Option Addr) (c : Nat) (bs : List Int) (k : Nat) (s : Int),
 Blk w g 137 #[.slice a bs.length c, .int .i64 k, .int .u64 s] ∧ RdB w a bs ∧ (0 < bs.length → ∀ b off, a = some ⟨b, off, none⟩ → b < g) ∧ k ≤ T ∧ 0 ≤ s ∧ s < 18446744073709551616
section
variable {w w' : World} {g T : Nat}
theorem Src.lt (h : Src w g T) : g < w.heap.size := by
 obtain ⟨_, _, _, _, _, hb, _⟩ := h
 exact hb.lt
theorem Src.mono (h : Src w g T) {T' : Nat} (hT : T ≤ T') : Src w g T' := by
 obtain ⟨a, c, bs, k, s, h1, h2, h3, h4, h5⟩ := h
 exact ⟨a, c, bs, k, s, h1, h2, h3, by omega, h5⟩
theorem RdB.kp {a : Option Addr} {bs : List Int} (h : RdB w a bs) (hg : 0 < bs.length → ∀ b off, a = some ⟨b, off, none⟩ → b < g) (k : Kp w w' 0 g) : RdB w' a bs :=
 ⟨h.1, h.2.1, fun h0 => by
  obtain ⟨b, off, e, hb, hc⟩ := h.at_ h0
  exact ⟨b, off, e, fun i hi => (cell_block (k.2 b (Nat.zero_le _) (hg h0 b off e)) _).trans (hc i hi)⟩⟩
theorem Src.kp (h : Src w g T) (k : Kp w w' 0 (g + 1)) : Src w' g T := by
 obtain ⟨a, c, bs, k', s, h1, h2, h3, h4, h5⟩ := h
 exact ⟨a, c, bs, k', s, h1.kp (k.sub (Nat.zero_le _) (Nat.le_refl _)), h2.kp h3 (k.sub (Nat.le_refl _) (Nat.le_succ _)), h3, h4, h5⟩
theorem Src.below (h : Src w g T) (hb : Below w.heap.size w w') : Src w' g T := h.kp (Kp.below hb h.lt)
theorem Kp.setC1 (w : World) (g i : Nat) (v : Value) : Kp w (w.setCell ⟨g, i, none⟩ v) 0 g := ⟨by simp, fun b _ hb => Below.heap_setCell w _ _ b (by show b ≠ g; omega)⟩
theorem Mk.setC1 (w : World) (g i : Nat) (v : Value) : Mk w (w.setCell ⟨g, i, none⟩ v) g (g + 1) := ⟨(Below.refl g w).setCell (p := ⟨g, i, none⟩) (Nat.le_refl g) v, fun b hb _ => Below.heap_setCell w _ _ b (by show b ≠ g; omega)⟩
theorem Src.set (h : Src w g T) {k : Nat} {x : Int} (hk : w.cell? ⟨g, 1, none⟩ = some (.int .i64 k)) (h0 : 0 ≤ x) (h1 : x < 18446744073709551616) :
    Src ((w.setCell ⟨g, 1, none⟩ (.int .i64 ((k + 1 : Nat) : Int))).setCell ⟨g, 2, none⟩ (.int .u64 x)) g (T + 1) := by
 obtain ⟨a, c, bs, k', s', b1, b2, b3, b4, b5⟩ := h
 have e : (k' : Int) = k := by
  have := b1.cell 1
  rw [hk] at this
  simp at this
  exact this.symm
 have e2 : k' = k := Int.ofNat_inj.1 e
 subst e2
 refine ⟨a, c, bs, k' + 1, x, ?_, (b2.kp b3 (Kp.setC1 _ _ _ _)).kp b3 (Kp.setC1 _ _ _ _), b3, by omega, h0, h1⟩
 have := (b1.set_ 1 (.int .i64 ((k' + 1 : Nat) : Int))).set_ 2 (.int .u64 x)
 simpa using this
end
theorem u64_wrap (x : Int) : 0 ≤ IntKind.u64.wrap x ∧ IntKind.u64.wrap x < 18446744073709551616 := by
 have h : IntKind.u64.wrap x = x % 18446744073709551616 := by simp [IntKind.wrap, IntKind.bits, IntKind.signed]
 rw [h]
 omega
theorem and_255 (y : Int) (h0 : 0 ≤ y) (h1 : y ≤ 18446744073709551615) : ∃ x : Nat, wrap64 (bits BinOp.and IntKind.u64 y 255) = (x : Int) ∧ x ≤ 255 := by
 have h := bits_and_u64_nat y.toNat 255 (by omega) (by omega)
 rw [Int.toNat_of_nonneg h0] at h
 refine ⟨y.toNat &&& 255, ?_, Nat.and_le_right⟩
 have hle : y.toNat &&& 255 ≤ 255 := Nat.and_le_right
 rw [show (255 : Int) = ((255 : Nat) : Int) from rfl, h, IntWalk.wrap64_in _ (by omega)]
theorem next_fin {w : World} {g T : Nat} (h : Src w g T) {k : Nat} (hk : w.cell? ⟨g, 1, none⟩ = some (.int .i64 k)) (x : Int) (a b : Nat) :
    Src ((((w.drewN a).setCell ⟨g, 1, none⟩ (.int .i64 ((k : Int) + 1))).setCell ⟨g, 2, none⟩ (.int .u64 (IntKind.u64.wrap x))).drewN b) g (T + 1) ∧
    Mk w ((((w.drewN a).setCell ⟨g, 1, none⟩ (.int .i64 ((k : Int) + 1))).setCell ⟨g, 2, none⟩ (.int .u64 (IntKind.u64.wrap x))).drewN b) g (g + 1) := by
 have hx := u64_wrap x
 have ha : Mk w (w.drewN a) g (g + 1) := Mk.alloc (Below.drewn a) (by have := h.lt; omega)
 have h1 := (h.below (Below.drewn a)).set (x := IntKind.u64.wrap x) (by simpa using hk) hx.1 hx.2
 have m := (ha.trans (Mk.setC1 _ g 1 (.int .i64 ((k + 1 : Nat) : Int)))).trans (Mk.setC1 _ g 2 (.int .u64 (IntKind.u64.wrap x)))
 exact ⟨h1.below (Below.drewn b), m.trans (Mk.alloc (Below.drewn b) (by have := h1.lt; omega))⟩
theorem next_any (g T : Nat) (w : World) (h : Src w g T) (hT : T ≤ 1000000000000) :
    Calls Tryz.prog 180 #[.pointer (some ⟨g, 0, none⟩)] w fun e w' => ∃ x : Nat, e = .returned (.int .i64 x) ∧ x ≤ 255 ∧ Src w' g (T + 1) ∧ Mk w w' g (g + 1) := by
 have HS := hide h
 obtain ⟨a, c, bs, k, s, hb, hr, hg, hk, hs, hs2⟩ := h
 have c0 := hb.cell 0
 have c1 := hb.cell 1
 have c2 := hb.cell 2
 have f1 := hb.frozen 1
 have f2 := hb.frozen 2
 have hl := hr.1
 by_cases hkl : k < bs.length
 · obtain ⟨b, off, rfl, hbb, hc⟩ := hr.at_ (by omega)
   have cb := hc k hkl
   have he := hr.el hkl
   obtain ⟨x, hx⟩ := Int.eq_ofNat_of_zero_le he.1
   rw [hx] at cb he
   clear hr hg hc hx
   go_enter Tryz.func180, Tryz.ntmps180
   go_upto_region 2 with fail
   go_quiet (fail)
   go_upto_region 3 with fail
   go_quiet (fail)
   go_upto_region 6 with fail
   go_quiet (fail)
   go_wp2
   go_ret
   exact ⟨x, rfl, by omega, next_fin (unhide HS) c1 _ _ _⟩
 · clear hr hg
   go_enter Tryz.func180, Tryz.ntmps180
   go_upto_region 2 with fail
   go_quiet (fail)
   go_upto_region 6 with fail
   go_quiet (fail)
   go_wp2
   go_ret
   obtain ⟨x, hx, hle⟩ := and_255 (IntKind.u64.wrap (IntKind.u64.wrap (IntKind.u64.wrap (s * 6364136223846793005)) + 1442695040888963407) / 1099511627776)
    (by have := u64_wrap (IntKind.u64.wrap (IntKind.u64.wrap (s * 6364136223846793005)) + 1442695040888963407); omega) (by have := u64_wrap (IntKind.u64.wrap (IntKind.u64.wrap (s * 6364136223846793005)) + 1442695040888963407); omega)
   refine ⟨x, ?_, hle, next_fin (unhide HS) c1 _ _ _⟩
   rw [← hx]
   rfl
end Go.Proofs.YtgfcbmflnldicaaGreat
namespace Go.Proofs.YtgfcbmflnldicaaGreat
open Go.RowKit
attribute [local go_sem ↓] Go.wp_at_zero Go.wp_at_succ
theorem b10Nums_any (a b : Option Addr) (c d : Nat) (xs ys : List Int) (w : World) (hx : Rd w a xs) (hy : Rd w b ys) :
    Calls Tryz.prog 15 #[.slice a xs.length c, .slice b ys.length d] w fun e w' => e = .returned (.bool (decide (xs = ys))) ∧ Qt w w' := by
 have hxl := hx.len
 have hyl := hy.len
 by_cases hl : xs.length = ys.length
 · have HL := Lib.hid hl
   generalize hn : ys.length = n at hl hyl
   subst hl
   clear hn
   go_enter Tryz.func15, Tryz.ntmps15
   go_wp2
   go_loopw [5] (fun i wr => ∃ (k q : Nat), i = .int .i64 k ∧ k ≤ xs.length ∧ wr = w.drewN q ∧ Hid (∀ j, j < k → nth xs j = nth ys j)) (fun i _ => xs.length - (intOf i).toNat)
   case atStart => exact ⟨0, 0, rfl, by omega, rfl, fun j hj => by omega⟩
   case round =>
    obtain ⟨k, q, rfl, hk, rfl, hq⟩ := hrel
    by_cases hkl : k < xs.length
    · obtain ⟨b1, o1, rfl, _, hcx⟩ := hx.at_ (by omega)
      obtain ⟨b2, o2, rfl, _, hcy⟩ := hy.at_ (by rw [← HL.out]; omega)
      have hx1 := hcx k hkl
      have hy1 := hcy k (by rw [← HL.out]; omega)
      clear hcx hcy hx hy
      go_wp2_with fail
      go_quiet (fail)
      go_wp2
      · go_ret
        exact ⟨ret_bool (not_all_eq ‹_›).symm, Qt.two _ _ _⟩
      · go_roundw
        case rel =>
         have hne : (nth xs k != nth ys k) = false := by assumption
         refine ⟨k + 1, _, by go_num, by omega, rfl, fun j hj => ?_⟩
         rcases Nat.lt_succ_iff_lt_or_eq.1 hj with h | rfl
         · exact hq.out j h
         · simpa using hne
        case measure => simp [intOf]; omega
    · go_wp2
      go_ret
      exact ⟨ret_bool (all_eq HL.out hkl hq.out).symm, _, rfl⟩
 · have hne : ((xs.length : Int) != (ys.length : Int)) = true := by rw [bne_iff_ne]; omega
   have hd : decide (xs = ys) = false := by rw [decide_eq_false_iff_not]; rintro rfl; exact hl rfl
   have HD := Lib.hid hd
   clear hd
   go_enter Tryz.func15, Tryz.ntmps15
   go_wp2
   go_ret
   exact ⟨ret_bool HD.out.symm, 0, rfl⟩
def Below' (n : Int) (x : Nat) : Prop := (x : Int) < n ∨ x = 0
theorem mod_nat {n y : Int} (hn : 1 < n) (h0 : 0 ≤ y) : ∃ x : Nat, y % n = (x : Int) ∧ (x : Int) < n := by
 have a := Int.emod_nonneg y (show n ≠ 0 by omega)
 have b := Int.emod_lt_of_pos y (show 0 < n by omega)
 exact ⟨(y % n).toNat, by omega, by omega⟩
theorem b10Long_any (a : Option Addr) (c n : Nat) (w : World) (hn : n ≤ maxLen) : Calls Tryz.prog 7 #[.slice a n c] w fun e w' => e = .returned (.bool (decide (1048576 < n))) ∧ w = w' := by
 have hn : n ≤ 9223372036854775807 := by unfold maxLen at hn; omega
 go_enter Tryz.func7, Tryz.ntmps7
 by_cases h : 1048576 < n
 · have h2 : (1048576 : Int) < n := by omega
   rw [show decide (1048576 < n) = true from decide_eq_true h]
   go_wp2
   go_ret
   exact ⟨ret_bool (by simp [h2]), rfl⟩
 · have h2 : ¬ (1048576 : Int) < n := by omega
   rw [show decide (1048576 < n) = false from decide_eq_false h]
   go_wp2
   go_ret
   exact ⟨ret_bool (by simp [h2]), rfl⟩
theorem b10At_any (a : Option Addr) (c : Nat) (bs : List Int) (i : Nat) (n : Int) (w : World) (h : RdB w a bs) (hi : i ≤ 1000) :
    Calls Tryz.prog 56 #[.slice a bs.length c, .int .i64 i, .int .i64 n] w fun e w' => ∃ x : Nat, e = .returned (.int .i64 x) ∧ Below' n x ∧ w = w' := by
 have hl := h.1
 by_cases hn : n ≤ 1
 · clear h
   go_enter Tryz.func56, Tryz.ntmps56
   go_wp2
   go_ret
   exact ⟨0, rfl, .inr rfl, rfl⟩
 · have hne : n ≠ 0 := by omega
   by_cases hil : i < bs.length
   · obtain ⟨b, off, rfl, hb, hc⟩ := h.at_ (by omega)
     have c1 := hc i hil
     have he := h.el hil
     obtain ⟨x, hx⟩ := Int.eq_ofNat_of_zero_le he.1
     rw [hx] at c1 he
     clear hc h hx
     obtain ⟨y, hy, hyn⟩ := mod_nat (y := x) (show 1 < n by omega) (by omega)
     go_enter Tryz.func56, Tryz.ntmps56
     go_wp2
     go_ret
     exact ⟨y, by rw [← hy]; rfl, .inl hyn, rfl⟩
   · clear h
     obtain ⟨y, hy, hyn⟩ := mod_nat (y := (i : Int) * 37 + 11) (show 1 < n by omega) (by omega)
     go_enter Tryz.func56, Tryz.ntmps56
     go_wp2
     go_ret
     exact ⟨y, by rw [← hy]; rfl, .inl hyn, rfl⟩
end Go.Proofs.YtgfcbmflnldicaaGreat
