/-
  Texts joined.
-/
import Derived.BigRegion
import Derived.OwnWalk
import Derived.Test.YtgfcbmflnldicaaGreatRF13
import Derived.Test.YtgfcbmflnldicaaGreatRF33
set_option linter.unusedVariables false
set_option linter.unusedSimpArgs false
set_option maxRecDepth 100000
set_option maxHeartbeats 40000000
namespace Go.Proofs.YtgfcbmflnldicaaGreat
open Go.RowKit
attribute [local go_sem ↓] Go.wp_at_zero Go.wp_at_succ
theorem RdS.drop {w : World} {b : Nat} {xss : List (List Int)} (h : RdS w (some ⟨b, 0, none⟩) xss) (t : Nat) : RdS w (some ⟨b, t, none⟩) (xss.drop t) := by
 refine ⟨by have := h.1; rw [List.length_drop]; omega, fun h0 => ?_⟩
 rw [List.length_drop] at h0
 obtain ⟨b', off, e, hb, hc⟩ := h.at_ (by omega)
 injection e with e
 injection e with e1 e2 _
 subst e1
 subst e2
 refine ⟨b, t, rfl, ?_⟩
 intro i hi
 rw [List.length_drop] at hi
 obtain ⟨ai, ci, h1, h2⟩ := hc (t + i) (by omega)
 rw [nthL_drop]
 rw [Nat.zero_add] at h1
 exact ⟨ai, ci, h1, h2⟩
theorem RS.step {w wr : World} {tvs : Array Value} {gb cb gq m k : Nat} {rows : List (List Int)} {u : Value} {piv : List Int} (h : RS w tvs gb cb gq m rows u piv k wr) :
    RS w tvs gb cb wr.heap.size m rows u piv (k + 1) (wr.alloc (.cells #[.int .i64 ((k : Int) + 1)] 3)) := by
 exact h.next ((Below.refl _ _).alloc (Nat.le_refl _) _) (Blk.new wr 3 #[.int .i64 ((k : Int) + 1)] rfl)
theorem RS.drewN {w wr : World} {tvs : Array Value} {gb cb gq m k : Nat} {rows : List (List Int)} {u : Value} {piv : List Int} (h : RS w tvs gb cb gq m rows u piv k wr) (q : Nat) : RS w tvs gb cb gq m rows u piv k (wr.drewN q) := by
 obtain ⟨h1, h2, h3, h4, h5, h6⟩ := h
 have b := Qt.below (w := wr) ⟨q, rfl⟩ wr.heap.size
 exact ⟨h1.below b, h2.below b (Nat.le_refl _), h3, h4, h5, h6.trans (Qt.below ⟨q, rfl⟩ _)⟩
end Go.Proofs.YtgfcbmflnldicaaGreat
namespace Go.Proofs.YtgfcbmflnldicaaGreat
open Go.RowKit
attribute [local go_sem ↓] Go.wp_at_zero Go.wp_at_succ
theorem OwnC.nil (w : World) (B : Nat) : OwnC w B (.slice none 0 0) (.slice none 0 0) [] [] := ⟨B, Nat.le_refl _, Own.nil _ _, fun k hk => by simp [Value.ownBlock] at hk, OwnS.nil _ _⟩
end Go.Proofs.YtgfcbmflnldicaaGreat
