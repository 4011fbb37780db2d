/-
  Texts joined.
-/
import Derived.Test.YtkiljcbejmiioaaGreatLK6
import Derived.Test.YtkiljcbejmiioaaGreatLK36
set_option linter.unusedVariables false
set_option linter.unusedSimpArgs false
set_option maxRecDepth 100000
set_option maxHeartbeats 40000000
namespace Go.Proofs.YtkiljcbejmiioaaGreat
open Go.RowKit
attribute [local go_sem ↓] Go.wp_at_zero Go.wp_at_succ
def Drawn (w : World) (g T : Nat) (n : Int) (e : Ending) (w' : World) : Prop :=
 ∃ x : Nat, e = .returned (.int .i64 x) ∧ ((x : Int) < n ∨ x = 0) ∧ x ≤ 65535 ∧ Src w' g T ∧ Mk w w' g (g + 1)
theorem drawn_mod {w w' : World} {g T : Nat} {n y : Int} (hn : 1 < n) (h0 : 0 ≤ y) (h1 : y ≤ 65535) (s : Src w' g T) (m : Mk w w' g (g + 1)) : Drawn w g T n (.returned (.int .i64 (y % n))) w' := by
 have a := Int.emod_nonneg y (show n ≠ 0 by omega)
 have b := Int.emod_lt_of_pos y (show 0 < n by omega)
 have c : y % n ≤ y := by have e := Int.mul_ediv_add_emod y n; have d := Int.mul_nonneg (show 0 ≤ n by omega) (Int.ediv_nonneg h0 (show 0 ≤ n by omega)); omega
 exact ⟨(y % n).toNat, by rw [Int.toNat_of_nonneg a], .inl (by omega), by omega, s, m⟩
theorem pick_any (g T : Nat) (n : Int) (w : World) (h : Src w g T) (hT : T ≤ 100000000000) :
    Calls Tryz.prog 51 #[.pointer (some ⟨g, 0, none⟩), .int .i64 n] w (Drawn w g (T + 2) n) := by
 have h1 := next_any g T w h (by omega)
 have H1 := hide h1
 have HS := hide h
 clear h1 h
 by_cases hn : n ≤ 1
 · go_enter Tryz.func51, Tryz.ntmps51
   go_wp2
   go_ret
   exact ⟨0, rfl, .inr rfl, by omega, (unhide HS).mono (by omega), Mk.refl _ _ _⟩
 · by_cases hn2 : 200 < n
   · go_enter Tryz.func51, Tryz.ntmps51
     go_wp2_with fail
     refine (unhide H1).mono ?_
     rintro e w1 ⟨x, rfl, hx, s1, m1⟩
     have h2 := next_any g (T + 1) w1 s1 (by omega)
     have H2 := hide h2
     clear h2 s1
     go_wp2_with fail
     refine (unhide H2).mono ?_
     rintro e w2 ⟨y, rfl, hy, s2, m2⟩
     have hne : n ≠ 0 := by omega
     go_wp2
     go_ret
     exact drawn_mod (by omega) (by omega) (by omega) s2 (m1.trans m2)
   · go_enter Tryz.func51, Tryz.ntmps51
     go_wp2_with fail
     refine (unhide H1).mono ?_
     rintro e w1 ⟨x, rfl, hx, s1, m1⟩
     have hne : n ≠ 0 := by omega
     go_wp2
     go_ret
     exact drawn_mod (by omega) (by omega) (by omega) (s1.mono (by omega)) m1
theorem one_any (g T : Nat) (n : Int) (w : World) (h : Src w g T) (hT : T ≤ 100000000000) :
    Calls Tryz.prog 85 #[.pointer (some ⟨g, 0, none⟩), .int .i64 n] w fun e w' => ∃ b, e = .returned (.bool b) ∧ Src w' g (T + 2) ∧ Mk w w' g (g + 1) := by
 have H1 := hide (pick_any g T n w h hT)
 go_enter Tryz.func85, Tryz.ntmps85
 go_wp2_with fail
 refine (unhide H1).mono ?_
 rintro e w1 ⟨x, rfl, hx, _, s1, m1⟩
 go_wp2
 go_ret
 exact ⟨_, rfl, s1, m1⟩
theorem among_any (g T : Nat) (a : Option Addr) (c : Nat) (xs : List Int) (w : World) (h : Src w g T) (hT : T ≤ 100000000000) (hl : 0 < xs.length) (hx : ∀ w', Mk w w' g (g + 1) → Rd w' a xs) :
    Calls Tryz.prog 111 #[.pointer (some ⟨g, 0, none⟩), .slice a xs.length c] w fun e w' => ∃ i, i < xs.length ∧ e = .returned (.int .i64 (nth xs i)) ∧ Src w' g (T + 2) ∧ Mk w w' g (g + 1) := by
 have H1 := hide (pick_any g T xs.length w h hT)
 have HX := hide hx
 have hlen := (hx w (Mk.refl _ _ _)).len
 clear hx
 go_enter Tryz.func111, Tryz.ntmps111
 go_wp2_with fail
 refine (unhide H1).mono ?_
 rintro e w1 ⟨x, rfl, hx, _, s1, m1⟩
 obtain ⟨b, off, rfl, hb, hc⟩ := ((unhide HX) _ m1).at_ hl
 have hxl : x < xs.length := by omega
 have cx := hc x hxl
 clear hc
 go_wp2
 go_ret
 exact ⟨x, hxl, rfl, s1, m1⟩
theorem among_new (g T : Nat) (xs : List Int) {n : Nat} {cs : Array Value} (w : World) (h : Src w g T) (hT : T ≤ 100000000000) (hl : 0 < xs.length) (hm : xs.length ≤ 1000) (hn : n = xs.length) (hcs : cs = (xs.map (Value.int .i64)).toArray) :
    Calls Tryz.prog 111 #[.pointer (some ⟨g, 0, none⟩), .slice (some ⟨w.heap.size, 0, none⟩) n n] (w.alloc (.cells cs 2)) fun e w' => ∃ i, i < xs.length ∧ e = .returned (.int .i64 (nth xs i)) ∧ Src w' g (T + 2) ∧ Mk w w' g (g + 1) := by
 subst hn
 have hlt := h.lt
 have b0 : Below w.heap.size w (w.alloc (.cells cs 2)) := (Below.refl _ _).alloc (Nat.le_refl _) _
 have k0 : Blk (w.alloc (.cells cs 2)) w.heap.size 2 cs := Blk.new _ _ _ rfl
 refine (among_any g T (some ⟨w.heap.size, 0, none⟩) xs.length xs _ (h.below b0) hT hl fun w' m => ?_).mono ?_
 · have k1 := k0.kp (m.kp (.inr (by omega)) k0.lt)
   refine ⟨by omega, fun _ => ⟨w.heap.size, 0, rfl, fun i hi => ?_⟩⟩
   rw [Nat.zero_add, k1.cell i, hcs]
   simp [nth, hi]
 · rintro e w' ⟨i, hi, rfl, s, m⟩
   exact ⟨i, hi, rfl, s, (Mk.alloc b0 (by omega)).trans m⟩
theorem from_any (a : Option Addr) (c : Nat) (bs : List Int) (w : World) (h : RdB w a bs) :
    Calls Tryz.prog 20 #[.slice a bs.length c] w fun e w' => e = .returned (.pointer (some ⟨w.heap.size, 0, none⟩)) ∧ Src w' w.heap.size 0 ∧ Below w.heap.size w w' ∧ w.heap.size < w'.heap.size := by
 have HX := hide h
 clear h
 go_enter Tryz.func20, Tryz.ntmps20
 go_wp2
 go_ret
 have b0 : Below w.heap.size w (w.alloc (.cells #[.slice a bs.length c, .int .i64 0, .int .u64 0] 86)) := (Below.refl _ _).alloc (Nat.le_refl _) _
 refine ⟨rfl, ⟨a, c, bs, 0, 0, Blk.new _ _ _ rfl, (unhide HX).below b0, fun h0 b off e => ?_, Nat.le_refl _, by omega, by omega⟩, b0, by simp⟩
 obtain ⟨b', off', e', hb, _⟩ := (unhide HX).at_ h0
 rw [e] at e'
 injection e' with e'
 injection e' with e'
 omega
theorem nth_all {P : Int → Prop} : ∀ {xs : List Int} {i : Nat}, i < xs.length → (∀ x ∈ xs, P x) → P (nth xs i) := fun hi h => h _ (nth_mem hi)
end Go.Proofs.YtkiljcbejmiioaaGreat
