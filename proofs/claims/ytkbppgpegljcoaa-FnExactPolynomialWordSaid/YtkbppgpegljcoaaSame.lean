/-
  Walks of the comparisons of fields and of codes. Printed by gen_same.py.
-/
import Derived.Test.YtkbppgpegljcoaaC
import Derived.Test.YtkbppgpegljcoaaEq2
namespace Go.Proofs.Ytkbppgpegljcoaa
open Go.RowKit

def sameF (p d : Int) (xs : List Int) (p' d' : Int) (ys : List Int) : Bool := decide (p = p') && (decide (d = d') && decide (xs = ys))
theorem sameF_list (p d : Int) (xs ys : List Int) : sameF p d xs p d ys = decide (xs = ys) := by simp [sameF]
theorem sameF_no {p d p' d' : Int} {xs ys : List Int} (h : p ≠ p' ∨ d ≠ d') : sameF p d xs p' d' ys = false := by
  rcases h with h | h <;> simp [sameF, h]
theorem sameF_self (p d : Int) (xs : List Int) : sameF p d xs p d xs = true := by simp [sameF]
def sameC (p d : Int) (xs : List Int) (xss : List (List Int)) (p' d' : Int) (ys : List Int) (yss : List (List Int)) : Bool := sameF p d xs p' d' ys && decide (xss = yss)
theorem sameC_self (p d : Int) (xs : List Int) (xss : List (List Int)) : sameC p d xs xss p d xs xss = true := by simp [sameC, sameF_self]

set_option maxHeartbeats 400000 in
theorem eqField_any (p d p' d' : Int) (a b : Option Addr) (c c' : Nat) (xs ys : List Int) (w : World) (hx : Rd w a xs) (hy : Rd w b ys) :
    Calls Try.prog 40 #[.agg #[.int .i64 p, .int .i64 d, .slice a xs.length c], .agg #[.int .i64 p', .int .i64 d', .slice b ys.length c']] w fun e w' => e = .returned (.bool (sameF p d xs p' d' ys)) ∧ Below w.heap.size w w' := by
  have hb0 := ((Below.refl w.heap.size w).alloc (Nat.le_refl _) (.cells #[.int .i64 p, .int .i64 d, .slice a xs.length c] 41)).alloc (by simp) (.cells #[.int .i64 p', .int .i64 d', .slice b ys.length c'] 41)
  by_cases hp : p = p'
  · subst hp
    by_cases hd : d = d'
    · subst hd
      go_enter Try.func40, Try.ntmps40
      go_wp2_with fail
      refine (eqInt64S_any a b c c' xs ys _ (hx.below hb0) (hy.below hb0)).mono ?_
      rintro e w1 ⟨rfl, q1⟩
      have hb1 := hb0.trans (q1.below _)
      generalize hr : decide (xs = ys) = r
      have HR := Lib.hid hr
      clear hr
      cases r
      · go_wp2
        go_ret
        exact ⟨ret_bool (by rw [sameF_list]; exact HR.out.symm), hb1⟩
      · go_wp2
        go_ret
        exact ⟨ret_bool (by rw [sameF_list]; exact HR.out.symm), hb1⟩
    · have h1 : (d != d') = true := by simpa using hd
      have h2 : (d == d') = false := by simpa using hd
      have HD := Lib.hid hd
      clear hd
      go_enter Try.func40, Try.ntmps40
      go_wp2
      go_ret
      exact ⟨ret_bool (sameF_no (.inr HD.out)).symm, hb0⟩
  · have h1 : (p != p') = true := by simpa using hp
    have h2 : (p == p') = false := by simpa using hp
    have HD := Lib.hid hp
    clear hp
    go_enter Try.func40, Try.ntmps40
    go_wp2
    go_ret
    exact ⟨ret_bool (sameF_no (.inl HD.out)).symm, hb0⟩

set_option maxHeartbeats 400000 in
theorem eqCode_any (p d p' d' : Int) (a b ra rb : Option Addr) (c c' rc rc' : Nat) (xs ys : List Int) (xss yss : List (List Int)) (w : World) (hx : Rd w a xs) (hy : Rd w b ys) (hxs : RdS w ra xss) (hys : RdS w rb yss) :
    Calls Try.prog 33 #[.agg #[.int .i64 p, .int .i64 d, .slice a xs.length c, .slice ra xss.length rc], .agg #[.int .i64 p', .int .i64 d', .slice b ys.length c', .slice rb yss.length rc']] w fun e w' => e = .returned (.bool (sameC p d xs xss p' d' ys yss)) ∧ Below w.heap.size w w' := by
  obtain ⟨w0, hw0⟩ : ∃ w0, w0 = (w.alloc (.cells #[.int .i64 p, .int .i64 d, .slice a xs.length c, .slice ra xss.length rc] 43)).alloc (.cells #[.int .i64 p', .int .i64 d', .slice b ys.length c', .slice rb yss.length rc'] 43) := ⟨_, rfl⟩
  have hb0 : Below w.heap.size w w0 := by rw [hw0]; exact ((Below.refl _ _).alloc (Nat.le_refl _) _).alloc (by simp) _
  have kA : Blk w0 w.heap.size 43 #[.int .i64 p, .int .i64 d, .slice a xs.length c, .slice ra xss.length rc] := by rw [hw0]; exact (Blk.new _ _ _ rfl).alloc _
  have kB : Blk w0 (w.heap.size + 1) 43 #[.int .i64 p', .int .i64 d', .slice b ys.length c', .slice rb yss.length rc'] := by rw [hw0]; exact Blk.new _ _ _ (by simp)
  have s0 : w0.heap.size = w.heap.size + 1 + 1 := by rw [hw0]; simp
  have HW := Lib.hid hw0
  clear hw0
  go_enter Try.func33, Try.ntmps33
  go_wp2_with fail
  rw [← HW.out]
  refine (eqField_any p d p' d' a b c c' xs ys w0 (hx.below hb0) (hy.below hb0)).mono ?_
  rintro e w1 ⟨rfl, b1⟩
  have kA1 := kA.below b1 (by omega)
  have kB1 := kB.below b1 (by omega)
  have hb1 := hb0.trans (b1.mono (by omega))
  have f0 : w1.cell? ⟨w.heap.size, 3, none⟩ = some (.slice ra xss.length rc) := kA1.cell 3
  have f1 : w1.cell? ⟨w.heap.size + 1, 3, none⟩ = some (.slice rb yss.length rc') := kB1.cell 3
  generalize hr : sameF p d xs p' d' ys = r
  have HR := Lib.hid hr
  clear hr HW
  cases r
  · go_wp2
    go_ret
    exact ⟨ret_bool (by unfold sameC; rw [HR.out]; rfl), hb1⟩
  · go_wp2_with fail
    refine (eqInt64SS_any ra rb rc rc' xss yss w1 (hxs.below hb1) (hys.below hb1)).mono ?_
    rintro e w2 ⟨rfl, q2⟩
    have hb2 := hb1.trans (q2.below _)
    generalize hr : decide (xss = yss) = r
    have HR2 := Lib.hid hr
    clear hr
    cases r
    · go_wp2
      go_ret
      exact ⟨ret_bool (by unfold sameC; rw [HR.out, HR2.out]; rfl), hb2⟩
    · go_wp2
      go_ret
      exact ⟨ret_bool (by unfold sameC; rw [HR.out, HR2.out]; rfl), hb2⟩

end Go.Proofs.Ytkbppgpegljcoaa
