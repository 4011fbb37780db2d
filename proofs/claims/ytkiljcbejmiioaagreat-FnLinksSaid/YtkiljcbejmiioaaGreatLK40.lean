/-
  Texts joined.
-/
import Derived.Test.YtkiljcbejmiioaaGreatLK5
import Derived.Test.YtkiljcbejmiioaaGreatLK10
import Derived.Test.YtkiljcbejmiioaaGreatLK38
import Derived.Test.YtkiljcbejmiioaaGreatLK39
set_option linter.unusedVariables false
set_option linter.unusedSimpArgs false
set_option maxRecDepth 100000
set_option maxHeartbeats 40000000
namespace Go.Proofs.YtkiljcbejmiioaaGreat
open Go.RowKit
attribute [local go_sem ↓] Go.wp_at_zero Go.wp_at_succ
def Rows7 (M : List (List Int)) : Prop := ∀ r ∈ M, r.length ≤ 3 ∧ ∀ y ∈ r, 0 ≤ y ∧ y < 7
theorem Rows7.nil : Rows7 [] := fun r hr => by simp at hr
theorem Rows7.snoc {M : List (List Int)} {xs : List Int} (h : Rows7 M) (hl : xs.length ≤ 3) (hx : ∀ y ∈ xs, 0 ≤ y ∧ y < 7) : Rows7 (M ++ [xs]) := fun r hr => by
 rcases List.mem_append.1 hr with h1 | h1
 · exact h r h1
 · rw [List.mem_singleton.1 h1]; exact ⟨hl, hx⟩
def SkoD (w : World) (e : Ending) (w' : World) : Prop := ∃ v M, e = .returned v ∧ M.length ≤ 100 ∧ Rows7 M ∧ OwnS w' w.heap.size v M ∧ Below w.heap.size w w'
theorem l11Skolem_any (w : World) : Calls Tryz.prog 107 #[.int .i64 1] w (SkoD w) := by
 go_enter Tryz.func107, Tryz.ntmps107
 go_wp2_with fail
 go_loopw [4, 5] (fun v xv wr => ∃ (x : Nat) (M : List (List Int)), xv = .int .i64 x ∧ x ≤ 1 ∧ M.length ≤ 4 * x ∧ Hid (Rows7 M) ∧ Hid (OwnS wr w.heap.size v M) ∧ Below w.heap.size w wr) (fun _ xv _ => 1 - (intOf xv).toNat)
 case atStart => exact ⟨0, [], rfl, by omega, Nat.zero_le _, Rows7.nil, OwnS.empty w (Nat.le_refl _), (Below.refl _ _).alloc (Nat.le_refl _) _⟩
 case round =>
  obtain ⟨x, M, rfl, hx, hMl, hR, ho, hb⟩ := hrel
  have hsz := hb.size
  rename World => wo
  by_cases hx0 : x < 1
  · obtain rfl : x = 0 := by omega
    have HH := hide ho.out.toH
    clear ho hx hx0
    rw [show ((0 : Nat) : Int) = 0 from rfl]
    go_wp2_with fail
    refine (l11Block_any _ _ _ wo).mono ?_
    rintro e w1 ⟨v1, xs, rfl, hxl, hxp, o1, b1⟩
    have hx7 : ∀ y ∈ xs, 0 ≤ y ∧ y < 7 := hxp (fun y => 0 ≤ y ∧ y < 7) (by decide) (by decide) (by decide)
    obtain ⟨a1, c1, rfl, _, _⟩ := o1.form
    have OR := hide o1
    have d1 := hb.trans (b1.mono hsz)
    have z1 := b1.size
    have HR6 := hide (hR.out.snoc hxl hx7)
    clear o1 hxp hx7
    go_wp2_with (at_builtin; refine wpList_append_row rfl (.tmp 20) (.tmp 30) rfl (v := u4) rfl ((unhide HH).belw (b1.alloc z1 _) (Nat.le_refl _)) _ rfl ((Blk.new w1 28 #[.slice a1 xs.length c1] rfl).cell 0) ((unhide OR).alloc _) hsz (by simp; omega) (by omega) ?_; intro v6 w6 o6 g6 _)
    have b6 : Below w.heap.size w w6 := Below.stepS (d1.alloc (by omega) _) g6 ((unhide HH).belw (b1.alloc z1 _) (Nat.le_refl _)).own (Nat.le_refl _) (by simp; omega)
    have O6 := hide o6
    have HL6 := Lib.hid (show (M ++ [xs]).length = M.length + 1 by simp)
    clear o6 g6
    go_wp2_with fail
    go_loopw [4, 6] (fun v iv wr => ∃ (i : Nat) (M : List (List Int)), iv = .int .i64 i ∧ i ≤ 3 ∧ M.length ≤ 1 + i ∧ Hid (Rows7 M) ∧ Hid (OwnS wr w.heap.size v M) ∧ Below w.heap.size w wr) (fun _ iv _ => 3 - (intOf iv).toNat)
    case atStart => exact ⟨0, _, rfl, by omega, by rw [HL6.out]; omega, unhide HR6, unhide O6, b6⟩
    case round =>
     clear HR6 O6 b6 HL6 OR HH hR hMl b1 d1
     obtain ⟨i, M, rfl, hi, hMl, hR, ho, hb⟩ := hrel
     have hsz := hb.size
     by_cases hi3 : i < 3
     · have HH := hide ho.out.toH
       clear ho
       rcases (show i = 0 ∨ i = 1 ∨ i = 2 by omega) with rfl | rfl | rfl
       · skip
         go_wp2_with fail
         refine (l11Block_any _ _ _ _).mono ?_
         rintro e w1 ⟨v1, xs, rfl, hxl, hxp, o1, b1⟩
         have hx7 : ∀ y ∈ xs, 0 ≤ y ∧ y < 7 := hxp (fun y => 0 ≤ y ∧ y < 7) (by decide) (by decide) (by decide)
         obtain ⟨a1, c1, rfl, _, _⟩ := o1.form
         have OR := hide o1
         have d1 := hb.trans (b1.mono hsz)
         have z1 := b1.size
         have HR6 := hide (hR.out.snoc hxl hx7)
         clear o1 hxp hx7
         go_wp2_with (at_builtin; refine wpList_append_row rfl (.tmp 36) (.tmp 54) rfl (v := u4) rfl ((unhide HH).belw (b1.alloc z1 _) (Nat.le_refl _)) _ rfl ((Blk.new w1 28 #[.slice a1 xs.length c1] rfl).cell 0) ((unhide OR).alloc _) hsz (by simp; omega) (by omega) ?_; intro v6 w6 o6 g6 _)
         have b6 : Below w.heap.size w w6 := Below.stepS (d1.alloc (by omega) _) g6 ((unhide HH).belw (b1.alloc z1 _) (Nat.le_refl _)).own (Nat.le_refl _) (by simp; omega)
         have O6 := hide o6
         have HL6 := Lib.hid (show (M ++ [xs]).length = M.length + 1 by simp)
         clear o6 g6
         go_roundw
         case rel => exact ⟨1, _, by first | rfl | go_num, by omega, by rw [HL6.out]; omega, unhide HR6, unhide O6, b6⟩
         case measure => simp only [intOf]; omega
       · skip
         go_wp2_with fail
         refine (l11Block_any _ _ _ _).mono ?_
         rintro e w1 ⟨v1, xs, rfl, hxl, hxp, o1, b1⟩
         have hx7 : ∀ y ∈ xs, 0 ≤ y ∧ y < 7 := hxp (fun y => 0 ≤ y ∧ y < 7) (by decide) (by decide) (by decide)
         obtain ⟨a1, c1, rfl, _, _⟩ := o1.form
         have OR := hide o1
         have d1 := hb.trans (b1.mono hsz)
         have z1 := b1.size
         have HR6 := hide (hR.out.snoc hxl hx7)
         clear o1 hxp hx7
         go_wp2_with (at_builtin; refine wpList_append_row rfl (.tmp 36) (.tmp 54) rfl (v := u4) rfl ((unhide HH).belw (b1.alloc z1 _) (Nat.le_refl _)) _ rfl ((Blk.new w1 28 #[.slice a1 xs.length c1] rfl).cell 0) ((unhide OR).alloc _) hsz (by simp; omega) (by omega) ?_; intro v6 w6 o6 g6 _)
         have b6 : Below w.heap.size w w6 := Below.stepS (d1.alloc (by omega) _) g6 ((unhide HH).belw (b1.alloc z1 _) (Nat.le_refl _)).own (Nat.le_refl _) (by simp; omega)
         have O6 := hide o6
         have HL6 := Lib.hid (show (M ++ [xs]).length = M.length + 1 by simp)
         clear o6 g6
         go_roundw
         case rel => exact ⟨2, _, by first | rfl | go_num, by omega, by rw [HL6.out]; omega, unhide HR6, unhide O6, b6⟩
         case measure => simp only [intOf]; omega
       · skip
         go_wp2_with fail
         refine (l11Block_any _ _ _ _).mono ?_
         rintro e w1 ⟨v1, xs, rfl, hxl, hxp, o1, b1⟩
         have hx7 : ∀ y ∈ xs, 0 ≤ y ∧ y < 7 := hxp (fun y => 0 ≤ y ∧ y < 7) (by decide) (by decide) (by decide)
         obtain ⟨a1, c1, rfl, _, _⟩ := o1.form
         have OR := hide o1
         have d1 := hb.trans (b1.mono hsz)
         have z1 := b1.size
         have HR6 := hide (hR.out.snoc hxl hx7)
         clear o1 hxp hx7
         go_wp2_with (at_builtin; refine wpList_append_row rfl (.tmp 36) (.tmp 54) rfl (v := u4) rfl ((unhide HH).belw (b1.alloc z1 _) (Nat.le_refl _)) _ rfl ((Blk.new w1 28 #[.slice a1 xs.length c1] rfl).cell 0) ((unhide OR).alloc _) hsz (by simp; omega) (by omega) ?_; intro v6 w6 o6 g6 _)
         have b6 : Below w.heap.size w w6 := Below.stepS (d1.alloc (by omega) _) g6 ((unhide HH).belw (b1.alloc z1 _) (Nat.le_refl _)).own (Nat.le_refl _) (by simp; omega)
         have O6 := hide o6
         have HL6 := Lib.hid (show (M ++ [xs]).length = M.length + 1 by simp)
         clear o6 g6
         go_roundw
         case rel => exact ⟨3, _, by first | rfl | go_num, by omega, by rw [HL6.out]; omega, unhide HR6, unhide O6, b6⟩
         case measure => simp only [intOf]; omega
     · obtain rfl : i = 3 := by omega
       have OO := hide ho.out
       clear ho
       go_wp2
       go_roundw
       case rel => exact ⟨1, _, by first | rfl | go_num, by omega, by omega, hR, unhide OO, hb⟩
       case measure => simp only [intOf]; omega
  · obtain rfl : x = 1 := by omega
    rw [show ((1 : Nat) : Int) = 1 from rfl]
    have OO := hide ho.out
    clear ho
    go_wp2_with fail
    go_loopw [4, 7] (fun v xv wr => ∃ (x : Nat) (M : List (List Int)), xv = .int .i64 x ∧ x ≤ 2 ∧ M.length ≤ 4 + 3 * x ∧ Hid (Rows7 M) ∧ Hid (OwnS wr w.heap.size v M) ∧ Below w.heap.size w wr) (fun _ xv _ => 2 - (intOf xv).toNat)
    case atStart => exact ⟨0, M, rfl, by omega, by omega, hR, unhide OO, hb⟩
    case round =>
     clear hR OO hb hMl
     obtain ⟨x, M, rfl, hx, hMl, hR, ho, hb⟩ := hrel
     rename World => wp
     by_cases hx2 : x < 2
     · have OO := hide ho.out
       clear ho
       rcases (show x = 0 ∨ x = 1 by omega) with rfl | rfl
       · rw [show ((0 : Nat) : Int) = 0 from rfl]
         go_wp2_with fail
         go_loopw [4, 8] (fun v yv wr => ∃ (y : Nat) (M : List (List Int)), yv = .int .i64 y ∧ 1 ≤ y ∧ y ≤ 2 ∧ M.length ≤ 4 + 3 * (y - 1) ∧ Hid (Rows7 M) ∧ Hid (OwnS wr w.heap.size v M) ∧ Below w.heap.size w wr) (fun _ yv _ => 2 - (intOf yv).toNat)
         case atStart => exact ⟨1, M, by first | rfl | go_num, by omega, by omega, by omega, hR, unhide OO, hb⟩
         case round =>
          clear hR OO hb hMl
          obtain ⟨y, M, rfl, hy1, hy, hMl, hR, ho, hb⟩ := hrel
          rename World => wq
          rcases (show y = 1 ∨ y = 2 by omega) with rfl | rfl
          · have OO := hide ho.out
            clear ho
            rw [show ((1 : Nat) : Int) = 1 from rfl]
            go_wp2_with fail
            go_loopw [4, 11] (fun v iv wr => ∃ (i : Nat) (M : List (List Int)), iv = .int .i64 i ∧ i ≤ 3 ∧ M.length ≤ 4 + i ∧ Hid (Rows7 M) ∧ Hid (OwnS wr w.heap.size v M) ∧ Below w.heap.size w wr) (fun _ iv _ => 3 - (intOf iv).toNat)
            case atStart => exact ⟨0, M, rfl, by omega, by omega, hR, unhide OO, hb⟩
            case round =>
             clear hR OO hb hMl
             obtain ⟨i, M, rfl, hi, hMl, hR, ho, hb⟩ := hrel
             have hsz := hb.size
             by_cases hi3 : i < 3
             · have HH := hide ho.out.toH
               clear ho
               rcases (show i = 0 ∨ i = 1 ∨ i = 2 by omega) with rfl | rfl | rfl
               · skip
                 go_wp2_with fail
                 refine (l11Block_any _ _ _ _).mono ?_
                 rintro e w1 ⟨v1, xs, rfl, hxl, hxp, o1, b1⟩
                 have hx7 : ∀ y ∈ xs, 0 ≤ y ∧ y < 7 := hxp (fun y => 0 ≤ y ∧ y < 7) (by decide) (by decide) (by decide)
                 obtain ⟨a1, c1, rfl, _, _⟩ := o1.form
                 have OR := hide o1
                 have d1 := hb.trans (b1.mono hsz)
                 have z1 := b1.size
                 have HR6 := hide (hR.out.snoc hxl hx7)
                 clear o1 hxp hx7
                 go_wp2_with (at_builtin; refine wpList_append_row rfl (.tmp 85) (.tmp 104) rfl (v := u4) rfl ((unhide HH).belw (b1.alloc z1 _) (Nat.le_refl _)) _ rfl ((Blk.new w1 28 #[.slice a1 xs.length c1] rfl).cell 0) ((unhide OR).alloc _) hsz (by simp; omega) (by omega) ?_; intro v6 w6 o6 g6 _)
                 have b6 : Below w.heap.size w w6 := Below.stepS (d1.alloc (by omega) _) g6 ((unhide HH).belw (b1.alloc z1 _) (Nat.le_refl _)).own (Nat.le_refl _) (by simp; omega)
                 have O6 := hide o6
                 have HL6 := Lib.hid (show (M ++ [xs]).length = M.length + 1 by simp)
                 clear o6 g6
                 go_roundw
                 case rel => exact ⟨1, _, by first | rfl | go_num, by omega, by rw [HL6.out]; omega, unhide HR6, unhide O6, b6⟩
                 case measure => simp only [intOf]; omega
               · skip
                 go_wp2_with fail
                 refine (l11Block_any _ _ _ _).mono ?_
                 rintro e w1 ⟨v1, xs, rfl, hxl, hxp, o1, b1⟩
                 have hx7 : ∀ y ∈ xs, 0 ≤ y ∧ y < 7 := hxp (fun y => 0 ≤ y ∧ y < 7) (by decide) (by decide) (by decide)
                 obtain ⟨a1, c1, rfl, _, _⟩ := o1.form
                 have OR := hide o1
                 have d1 := hb.trans (b1.mono hsz)
                 have z1 := b1.size
                 have HR6 := hide (hR.out.snoc hxl hx7)
                 clear o1 hxp hx7
                 go_wp2_with (at_builtin; refine wpList_append_row rfl (.tmp 85) (.tmp 104) rfl (v := u4) rfl ((unhide HH).belw (b1.alloc z1 _) (Nat.le_refl _)) _ rfl ((Blk.new w1 28 #[.slice a1 xs.length c1] rfl).cell 0) ((unhide OR).alloc _) hsz (by simp; omega) (by omega) ?_; intro v6 w6 o6 g6 _)
                 have b6 : Below w.heap.size w w6 := Below.stepS (d1.alloc (by omega) _) g6 ((unhide HH).belw (b1.alloc z1 _) (Nat.le_refl _)).own (Nat.le_refl _) (by simp; omega)
                 have O6 := hide o6
                 have HL6 := Lib.hid (show (M ++ [xs]).length = M.length + 1 by simp)
                 clear o6 g6
                 go_roundw
                 case rel => exact ⟨2, _, by first | rfl | go_num, by omega, by rw [HL6.out]; omega, unhide HR6, unhide O6, b6⟩
                 case measure => simp only [intOf]; omega
               · skip
                 go_wp2_with fail
                 refine (l11Block_any _ _ _ _).mono ?_
                 rintro e w1 ⟨v1, xs, rfl, hxl, hxp, o1, b1⟩
                 have hx7 : ∀ y ∈ xs, 0 ≤ y ∧ y < 7 := hxp (fun y => 0 ≤ y ∧ y < 7) (by decide) (by decide) (by decide)
                 obtain ⟨a1, c1, rfl, _, _⟩ := o1.form
                 have OR := hide o1
                 have d1 := hb.trans (b1.mono hsz)
                 have z1 := b1.size
                 have HR6 := hide (hR.out.snoc hxl hx7)
                 clear o1 hxp hx7
                 go_wp2_with (at_builtin; refine wpList_append_row rfl (.tmp 85) (.tmp 104) rfl (v := u4) rfl ((unhide HH).belw (b1.alloc z1 _) (Nat.le_refl _)) _ rfl ((Blk.new w1 28 #[.slice a1 xs.length c1] rfl).cell 0) ((unhide OR).alloc _) hsz (by simp; omega) (by omega) ?_; intro v6 w6 o6 g6 _)
                 have b6 : Below w.heap.size w w6 := Below.stepS (d1.alloc (by omega) _) g6 ((unhide HH).belw (b1.alloc z1 _) (Nat.le_refl _)).own (Nat.le_refl _) (by simp; omega)
                 have O6 := hide o6
                 have HL6 := Lib.hid (show (M ++ [xs]).length = M.length + 1 by simp)
                 clear o6 g6
                 go_roundw
                 case rel => exact ⟨3, _, by first | rfl | go_num, by omega, by rw [HL6.out]; omega, unhide HR6, unhide O6, b6⟩
                 case measure => simp only [intOf]; omega
             · obtain rfl : i = 3 := by omega
               have OO := hide ho.out
               clear ho
               go_wp2
               go_roundw
               case rel => exact ⟨2, M, by first | rfl | go_num, by omega, by omega, by omega, hR, unhide OO, hb⟩
               case measure => simp only [intOf]; omega
          · have OO := hide ho.out
            clear ho
            go_wp2
            go_roundw
            case rel => exact ⟨1, M, by first | rfl | go_num, by omega, by omega, hR, unhide OO, hb⟩
            case measure => simp only [intOf]; omega
       · rw [show ((1 : Nat) : Int) = 1 from rfl]
         go_wp2_with fail
         go_loopw [4, 8] (fun v yv wr => yv = .int .i64 2 ∧ Hid (OwnS wr w.heap.size v M) ∧ Below w.heap.size w wr) (fun _ yv _ => 0)
         case atStart => exact ⟨by first | rfl | go_num, unhide OO, hb⟩
         case round =>
          clear OO hb
          obtain ⟨rfl, ho, hb⟩ := hrel
          have OO := hide ho.out
          clear ho
          go_wp2
          go_roundw
          case rel => exact ⟨2, M, by first | rfl | go_num, by omega, by omega, hR, unhide OO, hb⟩
          case measure => simp only [intOf]; omega
     · have OO := hide ho.out
       clear ho
       obtain rfl : x = 2 := by omega
       go_wp2
       go_ret
       exact ⟨_, M, rfl, by omega, hR.out, unhide OO, hb⟩
def DesP (w : World) (Q : Int → List (List Int) → Prop) (e : Ending) (w' : World) : Prop := ∃ (p : Int) (M : List (List Int)) (v : Value), e = .returned (.agg #[.int .i64 p, v]) ∧ Q p M ∧ OwnS w' w.heap.size v M ∧ Below w.heap.size w w'
def Des7 (p : Int) (M : List (List Int)) : Prop := p = 7 ∧ M.length ≤ 100 ∧ Rows7 M
theorem Below.setD {B : Nat} {w W : World} {g : Nat} (h : Below B w W) (hg : B ≤ g) (a b : Value) : Below B w ((W.setCell ⟨g, 0, none⟩ a).setCell ⟨g, 1, none⟩ b) := (h.setCell hg _).setCell hg _
theorem OwnS.setD {w : World} {B g : Nat} {v : Value} {xss : List (List Int)} (h : OwnS w B v xss) (hg : g < B) (a b : Value) : OwnS ((w.setCell ⟨g, 0, none⟩ a).setCell ⟨g, 1, none⟩ b) B v xss := (h.storeBelow (p := ⟨g, 0, none⟩) hg a).storeBelow (p := ⟨g, 1, none⟩) hg b
theorem Blk.b2 {w : World} {g : Nat} {t : TypeId} {a b : Value} (h : Blk w g t #[a, b]) (x y : Value) : Blk ((w.setCell ⟨g, 0, none⟩ x).setCell ⟨g, 1, none⟩ y) g t #[x, y] := (h.set_ 0 x).set_ 1 y
theorem l11Make_any (w : World) : Calls Tryz.prog 52 #[.int .i64 7] w (DesP w Des7) := by
 obtain ⟨W0, hW0⟩ : ∃ z, z = w.alloc (.cells #[.int .i64 0, .slice none 0 0] 26) := ⟨_, rfl⟩
 have b0 : Below w.heap.size w W0 := by rw [hW0]; exact (Below.refl _ _).alloc (Nat.le_refl _) _
 have k0 : Blk W0 w.heap.size 26 #[.int .i64 0, .slice none 0 0] := by rw [hW0]; exact Blk.new _ _ _ rfl
 have z0 : w.heap.size < W0.heap.size := k0.lt
 have HW := Lib.hid hW0
 clear hW0
 go_enter Tryz.func52, Tryz.ntmps52
 go_upto_region 1 with fail
 rw [← HW.out]
 go_wp2_with fail
 refine (l11Skolem_any W0).mono ?_
 rintro e w1 ⟨v1, M, rfl, hMl, hR, o1, b1⟩
 obtain ⟨a1, c1, rfl, r1⟩ := o1.form
 have H1 := hide (l10SortG_any a1 c1 M w1 r1 (by omega))
 have z1 := b1.size
 clear o1 r1
 go_wp2_with fail
 refine (unhide H1).mono ?_
 rintro e w2 ⟨v2, M2, rfl, _, hl2, hin, o2, b2⟩
 have HL2 := Lib.hid hl2
 clear hl2
 obtain ⟨a2, c2, rfl, _⟩ := o2.form
 have z2 := b2.size
 have b12 := b1.trans (b2.mono z1)
 have k2 := k0.below b12 z0
 have f0 := k2.cell 0
 have f1 := k2.cell 1
 have g0 := k2.frozen 0
 have g1 := k2.frozen 1
 go_wp2
 refine bodyPost_ret (results_cell_row rfl _ _ w.heap.size 26 #[.int .i64 7, .slice a2 M2.length c2] (0, 0) _ rfl (k2.b2 _ _) Tryz.underlying26 rfl (by kernel_rfl)) rfl ?_
 exact ⟨7, M2, _, rfl, ⟨rfl, by rw [HL2.out]; omega, fun r hr => hR r (hin r hr)⟩, (o2.setD (by omega) _ _).mono (by omega), Below.setD (b0.trans (b12.mono (by omega))) (Nat.le_refl _) _ _⟩
end Go.Proofs.YtkiljcbejmiioaaGreat
namespace Go.Proofs.YtkiljcbejmiioaaGreat
open Go.RowKit
attribute [local go_sem ↓] Go.wp_at_zero Go.wp_at_succ
theorem l10Image_any (gd : Nat) (p0 : Int) (ra : Option Addr) (rc : Nat) (M : List (List Int)) (pa : Option Addr) (pc : Nat) (p : List Int) (w : World) (hc0 : w.cell? ⟨gd, 0, none⟩ = some (.int .i64 p0)) (hc1 : w.cell? ⟨gd, 1, none⟩ = some (.slice ra M.length rc)) (hM : RdS w ra M) (hp : Rd w pa p) (hl : p.length = 7) (hR : Rows7 M) (hml : M.length ≤ 1000) :
    Calls Tryz.prog 53 #[.pointer (some ⟨gd, 0, none⟩), .slice pa p.length pc] w (DesP w fun q N => q = p0 ∧ N.length = M.length) := by
 obtain ⟨W0, hW0⟩ : ∃ z, z = w.alloc (.cells #[.int .i64 0, .slice none 0 0] 26) := ⟨_, rfl⟩
 have b0 : Below w.heap.size w W0 := by rw [hW0]; exact (Below.refl _ _).alloc (Nat.le_refl _) _
 have k0 : Blk W0 w.heap.size 26 #[.int .i64 0, .slice none 0 0] := by rw [hW0]; exact Blk.new _ _ _ rfl
 have z0 : w.heap.size < W0.heap.size := k0.lt
 have hgd := World.block_lt_of_cell? w _ hc0
 have BX := hide (show ∀ W, Below W0.heap.size W0 W → W.cell? ⟨gd, 0, none⟩ = some (.int .i64 p0) ∧ W.cell? ⟨gd, 1, none⟩ = some (.slice ra M.length rc) ∧ Blk W w.heap.size 26 #[.int .i64 0, .slice none 0 0] from fun W h => ⟨((b0.trans (h.mono (Nat.le_of_lt z0))).cell (p := ⟨gd, 0, none⟩) hgd).trans hc0, ((b0.trans (h.mono (Nat.le_of_lt z0))).cell (p := ⟨gd, 1, none⟩) hgd).trans hc1, k0.below h z0⟩)
 have HM := hide (hM.below b0)
 have HP := hide (hp.below b0)
 have HR := hide hR
 have HW := Lib.hid hW0
 have HPL := Lib.hid hl
 clear hW0 hc0 hc1 hM hp hR hl k0
 go_enter Tryz.func53, Tryz.ntmps53
 go_upto_region 1 with fail
 rw [← HW.out]
 go_wp2_with fail
 go_loopw [5, 6] (fun v iv wr => ∃ (i : Nat) (N : List (List Int)), iv = .int .i64 i ∧ i ≤ M.length ∧ Hid (N.length = i) ∧ Hid (OwnS wr W0.heap.size v N) ∧ Below W0.heap.size W0 wr) (fun _ iv _ => M.length - (intOf iv).toNat)
 case atStart => exact ⟨0, [], rfl, Nat.zero_le _, rfl, OwnS.empty W0 (Nat.le_refl _), (Below.refl _ _).alloc (Nat.le_refl _) _⟩
 case round =>
  obtain ⟨i, N, rfl, hi, HNL, ho, hb⟩ := hrel
  have hsz := hb.size
  by_cases hil : i < M.length
  · obtain ⟨f0, f1, _⟩ := unhide BX wr hb
    obtain ⟨rb, ro, rfl, hrb, hcc⟩ := (unhide HM).at_ (by omega)
    obtain ⟨ai, ci, hci, hri⟩ := hcc i hil
    have g1 := (hb.cell (p := ⟨rb, ro + i, none⟩) hrb).trans hci
    have h7 := (unhide HR) (nthL M i) (nthL_mem hil)
    have him := l04Image_any pa pc p ai ci (nthL M i) wr ((unhide HP).below hb) (hri.below hb) (by omega) (fun x hx => by rw [HPL.out]; exact h7.2 x hx)
    have HH := hide ho.out.toH
    have hrl := hri.len
    obtain ⟨row, hrow⟩ : ∃ row, row = nthL M i := ⟨_, rfl⟩
    rw [← hrow] at g1 him hrl
    have HIM := hide him
    have hN := HNL.out
    have HNM := Lib.hid (show N.length + 1 ≤ 1073741824 by omega)
    clear ho hcc hci hri h7 him hrow hN
    go_wp2_with (first | (at_builtin; fail) | fail)
    refine (unhide HIM).mono ?_
    rintro e w1 ⟨v1, xs, rfl, hxl, o1, b1⟩
    obtain ⟨a1, c1, rfl, _, _⟩ := o1.form
    have OR := hide o1
    have d1 := hb.trans (b1.mono hsz)
    have z1 := b1.size
    clear o1
    go_wp2_with (at_builtin; refine wpList_append_row rfl (.tmp 17) (.tmp 27) rfl (v := u5) rfl ((unhide HH).belw (b1.alloc z1 _) (Nat.le_refl _)) _ rfl ((Blk.new w1 28 #[.slice a1 xs.length c1] rfl).cell 0) ((unhide OR).alloc _) hsz (by simp; omega) HNM.out ?_; intro v6 w6 o6 g6 _)
    have b6 : Below W0.heap.size W0 w6 := Below.stepS (d1.alloc (by omega) _) g6 ((unhide HH).belw (b1.alloc z1 _) (Nat.le_refl _)).own (Nat.le_refl _) (by simp; omega)
    have O6 := hide o6
    have HL6 := Lib.hid (show (N ++ [xs]).length = i + 1 by rw [List.length_append, HNL.out]; rfl)
    clear o6 g6
    go_roundw
    case rel => exact ⟨i + 1, _, by go_num, by omega, HL6, unhide O6, b6⟩
    case measure => simp only [intOf]; omega
  · obtain ⟨f0, f1, kk⟩ := unhide BX wr hb
    have hie : i = M.length := by omega
    have HNM := Lib.hid (show N.length = M.length by rw [HNL.out]; exact hie)
    obtain ⟨na, nc, rfl, hnr⟩ := ho.out.form
    have HSO := hide (fun W (h : Below wr.heap.size wr W) => l10SortG_any na nc N W (hnr.below h) (by rw [HNM.out]; omega))
    have BY := hide (show ∀ W, Below wr.heap.size wr W → Below wr.heap.size wr W ∧ W.cell? ⟨gd, 0, none⟩ = some (.int .i64 p0) from fun W h => ⟨h, (unhide BX W (hb.trans (h.mono hsz))).1⟩)
    clear ho hnr hie kk HNL
    go_upto_region 6 with fail
    refine wp_region_noPanic ?_
    refine wp_region_until (S := (fun W => Below wr.heap.size wr W ∧ W.cell? ⟨gd, 0, none⟩ = some (.int .i64 p0))) 7 [(0, 0), (0, 1), (0, 2), (0, 3), (0, 4), (1, 5), (0, 6), (2, 7)] (by kernel_rfl) (by kernel_rfl) (by kernel_rfl) rfl (fun _ _ _ _ _ h => h) ?_ (fun hHeld => ?_)
    · exact unhide BY _ (Below.refl _ _).drew
    refine SeqU.take (by rfl) (v := ?hv1) (by rfl) ?hy1 ?hr1
    case hy1 =>
     intro w hSw
     try dsimp only at hSw
     go_simp
     try (with_reducible rfl)
    try simp only [Act.put, List.setIfInBounds_toArray, List.set_cons_zero, List.set_cons_succ]
    refine SeqU.take (by rfl) (v := ?hv2) (by rfl) ?hy2 ?hr2
    case hy2 =>
     intro w hSw
     try dsimp only at hSw
     go_simp
     try (with_reducible rfl)
    try simp only [Act.put, List.setIfInBounds_toArray, List.set_cons_zero, List.set_cons_succ]
    refine SeqU.take (by rfl) (v := ?hv3) (by rfl) ?hy3 ?hr3
    case hy3 =>
     intro w hSw
     try dsimp only at hSw
     go_simp
     try (with_reducible rfl)
    try simp only [Act.put, List.setIfInBounds_toArray, List.set_cons_zero, List.set_cons_succ]
    refine SeqU.take (by rfl) (v := ?hv4) (by rfl) ?hy4 ?hr4
    case hy4 =>
     intro w hSw
     try dsimp only at hSw
     go_simp
     try (with_reducible rfl)
    try simp only [Act.put, List.setIfInBounds_toArray, List.set_cons_zero, List.set_cons_succ]
    refine SeqU.take (by rfl) (v := ?hv5) (by rfl) ?hy5 ?hr5
    case hy5 =>
     intro w hSw
     try dsimp only at hSw
     go_simp
     try (with_reducible rfl)
    try simp only [Act.put, List.setIfInBounds_toArray, List.set_cons_zero, List.set_cons_succ]
    refine SeqU.call (by rfl) (fun K hK => ?_)
    go_simp
    refine (unhide HSO _ (And.left hHeld)).mono ?_
    rintro e w3 ⟨v3, M3, rfl, _, hl3, _, o3, b3⟩
    have HL3 := Lib.hid hl3
    clear hl3
    obtain ⟨a3, c3, rfl, _⟩ := o3.form
    have d3 := Below.chain (And.left hHeld) b3
    have zh := (And.left hHeld).size
    have o3 := o3.mono zh
    have bb3 := hb.trans (d3.mono hsz)
    have k3 := (unhide BX w3 bb3).2.2
    have e0 := k3.cell 0
    have e1 := k3.cell 1
    have g0 := k3.frozen 0
    have g1 := k3.frozen 1
    clear hHeld
    refine hK.out _ _ ?_ (fun hHeld => ?_)
    · exact unhide BY _ d3
    clear hK K
    try simp only [Act.put, List.setIfInBounds_toArray, List.set_cons_zero, List.set_cons_succ]
    refine SeqU.take (by rfl) (v := ?hv6) (by rfl) ?hy6 ?hr6
    case hy6 =>
     intro w hSw
     try dsimp only at hSw
     go_simp
     try (with_reducible rfl)
    try simp only [Act.put, List.setIfInBounds_toArray, List.set_cons_zero, List.set_cons_succ]
    refine SeqU.last (by rfl) (fun K hK => ?_)
    go_simp
    skip
    refine hK.out _ _ ?_
    clear hK K
    try simp only [Act.put, List.setIfInBounds_toArray, List.set_cons_zero, List.set_cons_succ]
    refine SeqU.done (NoPanic.normal ?_)
    go_wp2
    refine bodyPost_ret (results_cell_row rfl _ _ w.heap.size 26 #[.int .i64 p0, .slice a3 M3.length c3] (0, 0) _ rfl (k3.b2 _ _) Tryz.underlying26 rfl (by kernel_rfl)) rfl ?_
    exact ⟨p0, M3, _, rfl, ⟨rfl, by rw [HL3.out, HNM.out]⟩, (o3.setD (by omega) _ _).mono (by omega), Below.setD (b0.trans (bb3.mono (Nat.le_of_lt z0))) (Nat.le_refl _) _ _⟩
theorem Own.lits (w : World) (xs : List Int) {cs : Array Value} {n : Nat} (hn : n = xs.length) (hcs : cs = (xs.map (Value.int .i64)).toArray) (hl : xs.length ≤ 1000) : Own (w.alloc (.cells cs 2)) w.heap.size (.slice (some ⟨w.heap.size, 0, none⟩) n n) xs := by
 subst hn
 subst hcs
 exact ⟨by omega, by simp, .inr ⟨_, xs.length, _, rfl, Nat.le_refl _, heap_alloc_new w _, Nat.le_refl _, by unfold maxLen; omega, by simp, by rw [List.toList_toArray, Nat.mul_one, List.take_of_length_le (by simp)]⟩⟩
def RowsDS (w : World) (g T n : Nat) (e : Ending) (w' : World) : Prop := ∃ v M, e = .returned v ∧ M.length ≤ n ∧ OwnS w' w.heap.size v M ∧ Src w' g T ∧ Mk w w' g (g + 1)
theorem l10DrawBlocks_any (s T n : Nat) (w : World) (h : Src w s T) (hT : T ≤ 1000000) :
    Calls Tryz.prog 56 #[.pointer (some ⟨s, 0, none⟩), .int .i64 n] w (RowsDS w s (T + 1000) 8) := by
 have hlt := h.lt
 have b0 : Below w.heap.size w (w.alloc (.cells #[] 28)) := (Below.refl _ _).alloc (Nat.le_refl _) _
 have H1 := hide (pick_any s T 9 _ (h.below b0) (by omega))
 have O0 := hide (OwnS.empty w (Nat.le_refl _))
 have m0 : Mk w (w.alloc (.cells #[] 28)) s (s + 1) := Mk.alloc b0 (by omega)
 clear h
 go_enter Tryz.func56, Tryz.ntmps56
 go_wp2_with fail
 refine (unhide H1).mono ?_
 rintro e w1 ⟨x, rfl, hx, _, s1, m1⟩
 have hx8 : x ≤ 8 := by omega
 have o1 := (unhide O0).mk m1 hlt
 have O1 := hide o1
 have mm1 := m0.trans m1
 clear o1 m1 hx H1 O0 b0
 go_wp2_with fail
 go_loopw [5, 6] (fun v mv wr => ∃ (m : Nat) (M : List (List Int)), mv = .int .i64 m ∧ m ≤ 8 ∧ M.length + m ≤ 8 ∧ Hid (OwnS wr w.heap.size v M) ∧ Src wr s (T + 2 + 20 * (8 - m)) ∧ Mk w wr s (s + 1)) (fun _ mv _ => (intOf mv).toNat)
 case atStart => exact ⟨x, [], rfl, hx8, by simp; omega, unhide O1, s1.mono (by omega), mm1⟩
 case round =>
  clear O1 s1 mm1 hx8
  obtain ⟨m, M, rfl, hm, hMl, ho, hs, hmk⟩ := hrel
  have hsz := hmk.size
  rename World => wo
  have hlt2 : s < wo.heap.size := by omega
  by_cases hm0 : 0 < m
  · obtain ⟨m, rfl⟩ : ∃ k, m = k + 1 := ⟨m - 1, by omega⟩
    have HSH := hide ho.out.toH
    have H2 := hide (pick_any s (T + 2 + 20 * (8 - (m + 1))) n wo hs (by omega))
    clear ho hs
    go_wp2_with fail
    refine (unhide H2).mono ?_
    rintro e w2 ⟨y, rfl, _, _, s2, m2⟩
    have y2 := m2.size
    have SH2 := (unhide HSH).kp (m2.kp (.inr (by omega)) (Nat.le_refl _))
    have mm2 := hmk.trans m2
    have z2 := mm2.size
    obtain ⟨w3, hw3⟩ : ∃ z, z = w2.alloc (.cells #[.int .i64 y] 2) := ⟨_, rfl⟩
    have b3 : Below w2.heap.size w2 w3 := by rw [hw3]; exact (Below.refl _ _).alloc (Nat.le_refl _) _
    have k3 : Own w3 w2.heap.size (.slice (some ⟨w2.heap.size, 0, none⟩) 1 1) [(y : Int)] := by
     rw [hw3]
     exact Own.lits w2 [(y : Int)] rfl rfl (by simp)
    have y3 := b3.size
    have s3 := s2.below b3
    have SH3 := SH2.belw b3 y2
    have mm3 := mm2.new (b3.mono z2) (by omega)
    have H3 := hide (pick_any s (T + 2 + 20 * (8 - (m + 1)) + 2) 4 w3 s3 (by omega))
    have HO3 := hide SH3
    have HK3 := hide (k3.mono y2)
    have HW3 := Lib.hid hw3
    clear hw3 SH2 SH3 k3 s2 s3 m2 H2 HSH b3 mm2 z2
    go_wp2_with fail
    rw [← HW3.out]
    refine (unhide H3).mono ?_
    rintro e w4 ⟨q, rfl, hq, _, s4, m4⟩
    have hq3 : q ≤ 3 := by omega
    have y4 := m4.size
    have O4 := hide ((unhide HO3).kp (m4.kp (.inr (by omega)) (by omega)))
    have K4 := hide ((unhide HK3).mk m4 hlt2)
    have mm4 := mm3.trans m4
    clear hq m4 H3 HO3 HK3 hmk mm3
    go_wp2_with fail
    go_loopw [7, 8] (fun v kv wr => ∃ (k : Nat) (X : List Int), kv = .int .i64 k ∧ k ≤ 3 ∧ X.length + k ≤ 4 ∧ Hid (Own wr wo.heap.size v X) ∧ Hid (OwnSH wr w.heap.size wo.heap.size u5 M) ∧ Hid (Src wr s (T + 2 + 20 * (8 - (m + 1)) + 4 + 2 * (3 - k))) ∧ wo.heap.size ≤ wr.heap.size ∧ Mk w wr s (s + 1)) (fun _ kv _ => (intOf kv).toNat)
    case atStart => exact ⟨q, _, rfl, hq3, by simp; omega, unhide K4, unhide O4, s4.mono (by omega), by omega, mm4⟩
    case round =>
     clear K4 O4 s4 mm4 hq3 y2 y3 y4
     obtain ⟨k, X, rfl, hk, hXl, hx, ho, hs, hyz, hmk⟩ := hrel
     have hsz2 := hmk.size
     by_cases hk0 : 0 < k
     · obtain ⟨k, rfl⟩ : ∃ j, k = j + 1 := ⟨k - 1, by omega⟩
       have H5 := hide (pick_any s (T + 2 + 20 * (8 - (m + 1)) + 4 + 2 * (3 - (k + 1))) n wr hs.out (by omega))
       obtain ⟨a7, c7, rfl, _, _⟩ := hx.out.form
       have HX := hide hx.out
       have HO := hide ho.out
       clear hx ho hs
       go_wp2_with fail
       refine (unhide H5).mono ?_
       rintro e w5 ⟨y5, rfl, _, _, s5, m5⟩
       have x5 := (unhide HX).mk m5 hlt2
       have o5 := (unhide HO).kp (m5.kp (.inr (by omega)) hyz)
       have H6 := hide (l00PutV_any a7 c7 X y5 w5 x5.rd (by omega))
       have mm5 := hmk.trans m5
       have z5 := m5.size
       have hpl := putV_len y5 X
       have O5 := hide o5
       clear x5 o5 m5 H5 HX HO
       go_wp2_with fail
       refine (unhide H6).mono ?_
       rintro e w6 ⟨v6, rfl, x6, b6⟩
       have z6 := b6.size
       have O6 := hide ((unhide O5).belw b6 (by omega))
       have X6 := hide (x6.mono (by omega : wo.heap.size ≤ w5.heap.size))
       have S6 := hide (s5.below b6)
       have mm6 := mm5.new (b6.mono mm5.size) (by omega)
       clear x6 s5
       go_wp2_with fail
       go_roundw
       case rel => exact ⟨k, _, by first | rfl | go_num, by omega, by omega, unhide X6, unhide O6, (unhide S6).mono (by omega), by omega, mm6⟩
       case measure => simp only [intOf]; omega
     · obtain rfl : k = 0 := by omega
       obtain ⟨a7, c7, rfl, _, _⟩ := hx.out.form
       have HX := hide hx.out
       have HH := hide ho.out
       have HSS := hide hs.out
       clear hx ho hs
       go_wp2_with (at_builtin; refine wpList_append_row rfl (.tmp 31) (.tmp 33) rfl (v := u5) rfl ((unhide HH).belw ((Below.refl _ _).alloc (Nat.le_refl _) _) hyz) _ rfl ((Blk.new wr 28 #[.slice a7 X.length c7] rfl).cell 0) ((unhide HX).alloc _) hsz (by simp; omega) (by omega) ?_; intro v6 w6 o6 g6 _)
       have b6 : Below w.heap.size wr w6 := Below.stepS ((Below.refl _ _).alloc (by omega) _) g6 ((unhide HH).belw ((Below.refl _ _).alloc (Nat.le_refl _) _) hyz).own (Nat.le_refl _) (by simp; omega)
       have O6 := hide o6
       have S6 := hide ((unhide HSS).keep b6 hlt)
       have mm6 := hmk.new b6 (by omega)
       clear o6 g6
       go_roundw
       case rel => exact ⟨m, _, by first | rfl | go_num, by omega, by rw [List.length_append]; simp; omega, unhide O6, (unhide S6).mono (by omega), mm6⟩
       case measure => simp only [intOf]; omega
  · obtain rfl : m = 0 := by omega
    have HO := hide ho.out
    have HSS := hide hs
    clear ho hs
    go_wp2
    go_ret
    exact ⟨_, M, rfl, by omega, unhide HO, (unhide HSS).mono (by omega), hmk⟩
end Go.Proofs.YtkiljcbejmiioaaGreat
namespace Go.Proofs.YtkiljcbejmiioaaGreat
open Go.RowKit
attribute [local go_sem ↓] Go.wp_at_zero Go.wp_at_succ
theorem Rd.blk {w : World} {g : Nat} {cs : Array Value} (h : Blk w g 2 cs) (xs : List Int) (hcs : cs = (xs.map (Value.int .i64)).toArray) (hl : xs.length ≤ 1000) : Rd w (some ⟨g, 0, none⟩) xs :=
 ⟨by omega, fun _ => ⟨g, 0, rfl, fun i hi => by rw [Nat.zero_add, h.cell i, hcs]; simp [nth, hi]⟩⟩
def DesDS (w : World) (g T L : Nat) (e : Ending) (w' : World) : Prop := ∃ (p : Int) (M : List (List Int)) (v : Value), e = .returned (.agg #[.int .i64 p, v]) ∧ I64 p ∧ M.length ≤ L ∧ OwnS w' w.heap.size v M ∧ Src w' g T ∧ Mk w w' g (g + 1)
theorem l10Known_any (s T : Nat) (w : World) (h : Src w s T) (hT : T ≤ 1000000) : Calls Tryz.prog 140 #[.pointer (some ⟨s, 0, none⟩)] w (DesDS w s (T + 100) 200) := by
 have hlt := h.lt
 obtain ⟨W8, hW8⟩ : ∃ z, z = ((((((((w.alloc (.cells #[.int .i64 0, .slice none 0 0] 26)).alloc (.cells #[.int .i64 0, .int .i64 1, .int .i64 3] 2)).alloc (.cells #[.int .i64 1, .int .i64 2, .int .i64 4] 2)).alloc (.cells #[.int .i64 2, .int .i64 3, .int .i64 5] 2)).alloc (.cells #[.int .i64 3, .int .i64 4, .int .i64 6] 2)).alloc (.cells #[.int .i64 0, .int .i64 4, .int .i64 5] 2)).alloc (.cells #[.int .i64 1, .int .i64 5, .int .i64 6] 2)).alloc (.cells #[.int .i64 0, .int .i64 2, .int .i64 6] 2)).alloc (.cells #[.slice (some ⟨w.heap.size + 1, 0, none⟩) 3 3, .slice (some ⟨w.heap.size + 1 + 1, 0, none⟩) 3 3, .slice (some ⟨w.heap.size + 1 + 1 + 1, 0, none⟩) 3 3, .slice (some ⟨w.heap.size + 1 + 1 + 1 + 1, 0, none⟩) 3 3, .slice (some ⟨w.heap.size + 1 + 1 + 1 + 1 + 1, 0, none⟩) 3 3, .slice (some ⟨w.heap.size + 1 + 1 + 1 + 1 + 1 + 1, 0, none⟩) 3 3, .slice (some ⟨w.heap.size + 1 + 1 + 1 + 1 + 1 + 1 + 1, 0, none⟩) 3 3] 28) := ⟨_, rfl⟩
 have b0 : Below w.heap.size w W8 := by rw [hW8]; exact (((((((((Below.refl _ _).alloc (Nat.le_refl _) _).alloc (by simp) _).alloc (by simp; omega) _).alloc (by simp; omega) _).alloc (by simp; omega) _).alloc (by simp; omega) _).alloc (by simp; omega) _).alloc (by simp; omega) _).alloc (by simp; omega) _
 have k0 : Blk W8 w.heap.size 26 #[.int .i64 0, .slice none 0 0] := by rw [hW8]; exact ((((((((Blk.new _ _ _ rfl).alloc _).alloc _).alloc _).alloc _).alloc _).alloc _).alloc _).alloc _
 have k1 : Blk W8 (w.heap.size + 1) 2 #[.int .i64 0, .int .i64 1, .int .i64 3] := by rw [hW8]; exact (((((((Blk.new _ _ _ (by simp)).alloc _).alloc _).alloc _).alloc _).alloc _).alloc _).alloc _
 have k2 : Blk W8 (w.heap.size + 1 + 1) 2 #[.int .i64 1, .int .i64 2, .int .i64 4] := by rw [hW8]; exact ((((((Blk.new _ _ _ (by simp)).alloc _).alloc _).alloc _).alloc _).alloc _).alloc _
 have k3 : Blk W8 (w.heap.size + 1 + 1 + 1) 2 #[.int .i64 2, .int .i64 3, .int .i64 5] := by rw [hW8]; exact (((((Blk.new _ _ _ (by simp)).alloc _).alloc _).alloc _).alloc _).alloc _
 have k4 : Blk W8 (w.heap.size + 1 + 1 + 1 + 1) 2 #[.int .i64 3, .int .i64 4, .int .i64 6] := by rw [hW8]; exact ((((Blk.new _ _ _ (by simp)).alloc _).alloc _).alloc _).alloc _
 have k5 : Blk W8 (w.heap.size + 1 + 1 + 1 + 1 + 1) 2 #[.int .i64 0, .int .i64 4, .int .i64 5] := by rw [hW8]; exact (((Blk.new _ _ _ (by simp)).alloc _).alloc _).alloc _
 have k6 : Blk W8 (w.heap.size + 1 + 1 + 1 + 1 + 1 + 1) 2 #[.int .i64 1, .int .i64 5, .int .i64 6] := by rw [hW8]; exact ((Blk.new _ _ _ (by simp)).alloc _).alloc _
 have k7 : Blk W8 (w.heap.size + 1 + 1 + 1 + 1 + 1 + 1 + 1) 2 #[.int .i64 0, .int .i64 2, .int .i64 6] := by rw [hW8]; exact (Blk.new _ _ _ (by simp)).alloc _
 have k8 : Blk W8 (w.heap.size + 1 + 1 + 1 + 1 + 1 + 1 + 1 + 1) 28 #[.slice (some ⟨w.heap.size + 1, 0, none⟩) 3 3, .slice (some ⟨w.heap.size + 1 + 1, 0, none⟩) 3 3, .slice (some ⟨w.heap.size + 1 + 1 + 1, 0, none⟩) 3 3, .slice (some ⟨w.heap.size + 1 + 1 + 1 + 1, 0, none⟩) 3 3, .slice (some ⟨w.heap.size + 1 + 1 + 1 + 1 + 1, 0, none⟩) 3 3, .slice (some ⟨w.heap.size + 1 + 1 + 1 + 1 + 1 + 1, 0, none⟩) 3 3, .slice (some ⟨w.heap.size + 1 + 1 + 1 + 1 + 1 + 1 + 1, 0, none⟩) 3 3] := by rw [hW8]; exact Blk.new _ _ _ (by simp)
 have z0 := k8.lt
 have m0 : Mk w W8 s (s + 1) := Mk.alloc b0 (by omega)
 have H1 := hide (pick_any s T 4 W8 (h.below b0) (by omega))
 have HW8 := Lib.hid hW8
 clear hW8 h
 go_enter Tryz.func140, Tryz.ntmps140
 go_upto_region 2 with fail
 rw [← HW8.out]
 go_wp2_with fail
 refine (unhide H1).mono ?_
 rintro e w9 ⟨x, rfl, hx, _, s9, m9⟩
 have mm9 := m0.trans m9
 have z9 := m9.size
 have hlt9 : w.heap.size < w9.heap.size := by omega
 have r0 := k0.kp (m9.kp (.inr (by omega)) (by omega))
 have BX := hide (show ∀ W, Below w9.heap.size w9 W → Blk W w.heap.size 26 #[.int .i64 0, .slice none 0 0] from fun W h => r0.below h hlt9)
 have hle9 : w.heap.size ≤ w9.heap.size := by omega
 rcases (show x = 0 ∨ x = 1 ∨ x = 2 ∨ x = 3 by omega) with rfl | rfl | rfl | rfl
 · -- the Fano plane
   have q1 := k1.kp (m9.kp (.inr (by omega)) (by omega))
   have q2 := k2.kp (m9.kp (.inr (by omega)) (by omega))
   have q3 := k3.kp (m9.kp (.inr (by omega)) (by omega))
   have q4 := k4.kp (m9.kp (.inr (by omega)) (by omega))
   have q5 := k5.kp (m9.kp (.inr (by omega)) (by omega))
   have q6 := k6.kp (m9.kp (.inr (by omega)) (by omega))
   have q7 := k7.kp (m9.kp (.inr (by omega)) (by omega))
   have q8 := k8.kp (m9.kp (.inr (by omega)) (by omega))
   have HRD := hide (show RdS w9 (some ⟨w.heap.size + 1 + 1 + 1 + 1 + 1 + 1 + 1 + 1, 0, none⟩) [[0, 1, 3], [1, 2, 4], [2, 3, 5], [3, 4, 6], [0, 4, 5], [1, 5, 6], [0, 2, 6]] from ⟨by decide, fun _ => ⟨_, 0, rfl, fun i hi => by
    rcases (show i = 0 ∨ i = 1 ∨ i = 2 ∨ i = 3 ∨ i = 4 ∨ i = 5 ∨ i = 6 by simp at hi; omega) with rfl | rfl | rfl | rfl | rfl | rfl | rfl
    · exact ⟨_, 3, q8.cell 0, Rd.blk q1 [0, 1, 3] rfl (by simp)⟩
    · exact ⟨_, 3, q8.cell 1, Rd.blk q2 [1, 2, 4] rfl (by simp)⟩
    · exact ⟨_, 3, q8.cell 2, Rd.blk q3 [2, 3, 5] rfl (by simp)⟩
    · exact ⟨_, 3, q8.cell 3, Rd.blk q4 [3, 4, 6] rfl (by simp)⟩
    · exact ⟨_, 3, q8.cell 4, Rd.blk q5 [0, 4, 5] rfl (by simp)⟩
    · exact ⟨_, 3, q8.cell 5, Rd.blk q6 [1, 5, 6] rfl (by simp)⟩
    · exact ⟨_, 3, q8.cell 6, Rd.blk q7 [0, 2, 6] rfl (by simp)⟩
   ⟩⟩)
   have HFL := Lib.hid (show ([[0, 1, 3], [1, 2, 4], [2, 3, 5], [3, 4, 6], [0, 4, 5], [1, 5, 6], [0, 2, 6]] : List (List Int)).length = 7 from rfl)
   have b99 := Below.refl w9.heap.size w9
   clear k1 q1 k2 q2 k3 q3 k4 q4 k5 q5 k6 q6 k7 q7 k8 q8
   have HSO := hide (l10SortG_any (some ⟨w.heap.size + 1 + 1 + 1 + 1 + 1 + 1 + 1 + 1, 0, none⟩) 7 [[0, 1, 3], [1, 2, 4], [2, 3, 5], [3, 4, 6], [0, 4, 5], [1, 5, 6], [0, 2, 6]] w9 (unhide HRD) (by decide))
   go_wp2_with fail
   refine (unhide HSO).mono ?_
   rintro e wS ⟨vS, MS, rfl, _, hlS, _, oS, bS⟩
   have HLS := Lib.hid (hlS.trans HFL.out)
   clear hlS
   obtain ⟨aS, cS, rfl, _⟩ := oS.form
   have zS := (b99).size
   have bbS := (b99).trans (bS.mono zS)
   have kR := unhide BX wS bbS
   have f0 := kR.cell 0
   have f1 := kR.cell 1
   have g0 := kR.frozen 0
   have g1 := kR.frozen 1
   go_wp2
   refine bodyPost_ret (results_cell_row rfl _ _ w.heap.size 26 #[.int .i64 7, .slice aS MS.length cS] (0, 0) _ rfl (kR.b2 _ _) Tryz.underlying26 rfl (by kernel_rfl)) rfl ?_
   exact ⟨_, MS, _, rfl, ⟨by omega, by omega⟩, by rw [HLS.out]; first | omega | decide, (oS.setD (by omega) _ _).mono (by omega), ((s9.below bbS).keep (Below.setD (Below.refl w.heap.size wS) (Nat.le_refl _) _ _) hlt).mono (by omega), (mm9.new (bbS.mono hle9) (by omega)).new (Below.setD (Below.refl w.heap.size wS) (Nat.le_refl _) _ _) (by omega)⟩
 · clear k1 k2 k3 k4 k5 k6 k7 k8
   have b10 : Below w9.heap.size w9 (w9.alloc (.cells #[] 28)) := (Below.refl _ _).alloc (Nat.le_refl _) _
   have H2 := hide (pick_any s (T + 2) 4 _ (s9.below b10) (by omega))
   have O0 := hide (OwnS.empty w9 (Nat.le_refl _))
   go_wp2_with fail
   refine (unhide H2).mono ?_
   rintro e w11 ⟨y, rfl, hy, _, s11, m11⟩
   have hy3 : y ≤ 3 := by omega
   have O1 := hide ((unhide O0).mk m11 (by omega))
   have mm11 := (mm9.new (b10.mono hle9) (by omega)).trans m11
   have r11 := (r0.below b10 hlt9).kp (m11.kp (.inr (by omega)) (by have := b10.size; omega))
   have z11 := mm11.size
   have y11 : w9.heap.size ≤ w11.heap.size := by have := b10.size; have := m11.size; omega
   obtain ⟨N, hN⟩ : ∃ N : Nat, N = 3 + y := ⟨_, rfl⟩
   have hN6 : N ≤ 6 := by omega
   clear O0 H2 m11 hy b10
   have hNw : IntKind.i64.wrap (3 + (y : Int)) = (N : Int) := by rw [IntWalk.i64_in _ (by omega)]; omega
   clear hN hy3
   go_wp2_with fail
   clear hNw
   go_loopw [4, 6] (fun v av wr => ∃ (a : Nat) (M : List (List Int)), av = .int .i64 a ∧ a ≤ N ∧ M.length ≤ 10 * a ∧ Hid (OwnS wr w9.heap.size v M) ∧ Below w9.heap.size w11 wr) (fun _ av _ => N - (intOf av).toNat)
   case atStart => exact ⟨0, [], rfl, Nat.zero_le _, Nat.zero_le _, unhide O1, Below.refl _ _⟩
   case round =>
    clear O1
    obtain ⟨a, M, rfl, ha, hMl, ho, hb⟩ := hrel
    have hsz := hb.size
    by_cases haN : a < N
    · have hw1 : IntKind.i64.wrap ((a : Int) + 1) = (a : Int) + 1 := IntWalk.i64_in _ (by omega)
      have HO := hide ho.out
      clear ho
      go_wp2_with fail
      go_loopw [4, 7] (fun v bv wr => ∃ (b : Nat) (M : List (List Int)), bv = .int .i64 b ∧ b ≤ N ∧ M.length ≤ 10 * a + b ∧ Hid (OwnS wr w9.heap.size v M) ∧ Below w9.heap.size w11 wr) (fun _ bv _ => N - (intOf bv).toNat)
      case atStart => exact ⟨a + 1, M, by go_num, by omega, by omega, unhide HO, hb⟩
      case round =>
       clear HO hb hsz hMl
       obtain ⟨b, M, rfl, hbN, hMl, ho, hb⟩ := hrel
       have hsz := hb.size
       by_cases hbN2 : b < N
       · have HH := hide ho.out.toH
         have hz1 : w9.heap.size ≤ wr.heap.size := by omega
         obtain ⟨w1, hw⟩ : ∃ z, z = wr.alloc (.cells #[.int .i64 a, .int .i64 b] 2) := ⟨_, rfl⟩
         have b1 : Below wr.heap.size wr w1 := by rw [hw]; exact (Below.refl _ _).alloc (Nat.le_refl _) _
         have o1 : Own w1 wr.heap.size (.slice (some ⟨wr.heap.size, 0, none⟩) 2 2) [(a : Int), (b : Int)] := by rw [hw]; exact Own.lits wr [(a : Int), (b : Int)] rfl rfl (by simp)
         have s1 : w1.heap.size = wr.heap.size + 1 := by rw [hw]; simp
         have HW := Lib.hid hw
         have OR := hide o1
         have zb := b1.size
         clear ho o1 hw
         go_wp2_with (at_builtin; rw [← HW.out]; refine wpList_append_row rfl (.tmp 51) (.tmp 55) rfl (v := u4) rfl ((unhide HH).belw (b1.alloc zb _) (Nat.le_refl _)) _ rfl ((Blk.new w1 28 #[.slice (some ⟨wr.heap.size, 0, none⟩) 2 2] s1.symm).cell 0) ((unhide OR).alloc _) hz1 (by simp; omega) (by omega) ?_; intro v6 w6 o6 g6 _)
         have b6 : Below w9.heap.size w11 w6 := Below.stepS ((hb.trans (b1.mono hz1)).alloc (by omega) _) g6 ((unhide HH).belw (b1.alloc zb _) (Nat.le_refl _)).own (Nat.le_refl _) (by simp; omega)
         have O6 := hide o6
         clear o6 g6
         go_roundw
         case rel => exact ⟨b + 1, _, by go_num, by omega, by rw [List.length_append]; simp; omega, unhide O6, b6⟩
         case measure => simp only [intOf]; omega
       · have HO := hide ho.out
         clear ho
         go_wp2
         go_roundw
         case rel => exact ⟨a + 1, M, by first | rfl | go_num, by omega, by omega, unhide HO, hb⟩
         case measure => simp only [intOf]; omega
    · have HML := hide hMl
      obtain ⟨na, nc, rfl, hnr⟩ := ho.out.form
      have HSO := hide (l10SortG_any na nc M wr hnr (by omega))
      clear ho hnr
      go_wp2_with fail
      refine (unhide HSO).mono ?_
      rintro e wS ⟨vS, MS, rfl, _, hlS, _, oS, bS⟩
      have HLS := Lib.hid hlS
      clear hlS
      obtain ⟨aS, cS, rfl, _⟩ := oS.form
      have bbS : Below w9.heap.size w11 wS := hb.trans (bS.mono (by omega))
      have kR : Blk wS w.heap.size 26 #[.int .i64 0, .slice none 0 0] := (bbS.block _ hlt9).trans r11
      have zS := bS.size
      have f0 := kR.cell 0
      have f1 := kR.cell 1
      have g0 := kR.frozen 0
      have g1 := kR.frozen 1
      go_wp2
      refine bodyPost_ret (results_cell_row rfl _ _ w.heap.size 26 #[.int .i64 N, .slice aS MS.length cS] (0, 0) _ rfl (kR.b2 _ _) Tryz.underlying26 rfl (by kernel_rfl)) rfl ?_
      exact ⟨_, MS, _, rfl, ⟨by omega, by omega⟩, by rw [HLS.out]; first | omega | decide, (oS.setD (by omega) _ _).mono (by omega), ((s11.keep bbS (by omega)).keep (Below.setD (Below.refl w.heap.size wS) (Nat.le_refl _) _ _) hlt).mono (by omega), (mm11.new (bbS.mono hle9) (by omega)).new (Below.setD (Below.refl w.heap.size wS) (Nat.le_refl _) _ _) (by omega)⟩
 · clear k1 k2 k3 k4 k5 k6 k7 k8
   have O0 := hide (OwnS.empty w9 (Nat.le_refl _))
   have b10 : Below w9.heap.size w9 (w9.alloc (.cells #[] 28)) := (Below.refl _ _).alloc (Nat.le_refl _) _
   have B10 := hide b10
   go_wp2_with fail
   go_loopw [8, 9] (fun v kv wr => ∃ (k : Nat) (M : List (List Int)), kv = .int .i64 k ∧ k ≤ 11 ∧ M.length ≤ k ∧ Hid (OwnS wr w9.heap.size v M) ∧ Below w9.heap.size w9 wr) (fun _ kv _ => 11 - (intOf kv).toNat)
   case atStart => exact ⟨0, [], rfl, Nat.zero_le _, Nat.zero_le _, unhide O0, unhide B10⟩
   case round =>
    clear O0 B10 b10
    obtain ⟨k, M, rfl, hk, hMl, ho, hb⟩ := hrel
    have hsz := hb.size
    rename World => wo
    by_cases hkn : k < 11
    · have hdk : decide ((k : Int) < 11) = true := decide_eq_true (by omega)
      have HH := hide ho.out.toH
      obtain ⟨w2, hw⟩ : ∃ z, z = (wo.alloc (.cells #[] 2)).alloc (.cells #[.int .i64 1, .int .i64 3, .int .i64 4, .int .i64 5, .int .i64 9] 2) := ⟨_, rfl⟩
      have b2 : Below wo.heap.size wo w2 := by rw [hw]; exact ((Below.refl _ _).alloc (Nat.le_refl _) _).alloc (by simp) _
      have o2 : Own w2 wo.heap.size (.slice (some ⟨wo.heap.size, 0, none⟩) 0 0) [] := by rw [hw]; exact (Own.empty wo (Nat.le_refl _)).alloc _
      have q2 : Blk w2 (wo.heap.size + 1) 2 #[.int .i64 1, .int .i64 3, .int .i64 4, .int .i64 5, .int .i64 9] := by rw [hw]; exact Blk.new _ _ _ (by simp)
      have zq := q2.lt
      have RL := hide (Rd.blk q2 [1, 3, 4, 5, 9] rfl (by simp))
      have O2 := hide o2
      have HW := Lib.hid hw
      clear ho o2 hw q2
      go_wp2_with fail
      rw [← HW.out]
      go_loopw [10, 71] (fun v jv wr => ∃ (j : Nat) (X : List Int), jv = .int .i64 j ∧ j ≤ 5 ∧ X.length ≤ j ∧ Hid (Own wr wo.heap.size v X) ∧ Below w2.heap.size w2 wr) (fun _ jv _ => 5 - (intOf jv).toNat)
      case atStart => exact ⟨0, [], rfl, Nat.zero_le _, Nat.le_refl _, unhide O2, Below.refl _ _⟩
      case round =>
       clear O2
       obtain ⟨j, X, rfl, hj, hXl, hx, hb2⟩ := hrel
       have hz2 := hb2.size
       by_cases hjm : j < 5
       · have rl := ((unhide RL).below hb2)
         obtain ⟨bb, oo, e1, _, hcl⟩ := rl.at_ (by simp)
         injection e1 with e1
         injection e1 with e1 e2
         subst e1
         subst e2
         have hc := hcl j (by simpa using hjm)
         rw [Nat.zero_add] at hc
         obtain ⟨y, hy⟩ : ∃ y, y = nth [1, 3, 4, 5, 9] j := ⟨_, rfl⟩
         rw [← hy] at hc
         obtain ⟨ax, cx, rfl, rx, _⟩ := hx.out.form
         have HP := hide (fun (q : Int) => l00PutV_any ax cx X q wr rx (by omega))
         have HPL := hide (fun (q : Int) => putV_len q X)
         clear hx rx rl hcl hy
         go_wp2_with fail
         refine (unhide HP _).mono ?_
         rintro e w3 ⟨v3, rfl, o3, b3⟩
         have O3 := hide (o3.mono (by omega : wo.heap.size ≤ wr.heap.size))
         have bb3 := hb2.trans (b3.mono hz2)
         clear o3 hc
         go_wp2_with fail
         go_roundw
         case rel => exact ⟨j + 1, _, by go_num, by omega, Nat.le_trans (unhide HPL _) (by omega), unhide O3, bb3⟩
         case measure => simp only [intOf]; omega
       · obtain rfl : j = 5 := by omega
         obtain ⟨ax, cx, rfl, rx, _⟩ := hx.out.form
         have OR := hide hx.out
         have bw : Below wo.heap.size wo wr := b2.trans (hb2.mono (by omega))
         have hzw : w9.heap.size ≤ wo.heap.size := by omega
         have zw := bw.size
         clear hx rx
         go_wp2_with (at_builtin; refine wpList_append_row rfl (.tmp 82) (.tmp 84) rfl (v := u8) rfl ((unhide HH).belw (bw.alloc zw _) (Nat.le_refl _)) _ rfl ((Blk.new wr 28 #[.slice ax X.length cx] rfl).cell 0) ((unhide OR).alloc _) hzw (by simp; omega) (by omega) ?_; intro v6 w6 o6 g6 _)
         have b6 : Below w9.heap.size w9 w6 := Below.stepS ((hb.trans (bw.mono hzw)).alloc (by omega) _) g6 ((unhide HH).belw (bw.alloc zw _) (Nat.le_refl _)).own (Nat.le_refl _) (by simp; omega)
         have O6 := hide o6
         clear o6 g6
         go_roundw
         case rel => exact ⟨k + 1, _, by first | rfl | go_num, by omega, by rw [List.length_append]; simp; omega, unhide O6, b6⟩
         case measure => simp only [intOf]; omega
    · have HML := hide hMl
      obtain ⟨na, nc, rfl, hnr⟩ := ho.out.form
      have HSO := hide (l10SortG_any na nc M wo hnr (by omega))
      clear ho hnr
      go_wp2_with fail
      refine (unhide HSO).mono ?_
      rintro e wS ⟨vS, MS, rfl, _, hlS, _, oS, bS⟩
      have HLS := Lib.hid hlS
      clear hlS
      obtain ⟨aS, cS, rfl, _⟩ := oS.form
      have bbS : Below w9.heap.size w9 wS := hb.trans (bS.mono (by omega))
      have kR := unhide BX wS bbS
      have zS := bS.size
      have f0 := kR.cell 0
      have f1 := kR.cell 1
      have g0 := kR.frozen 0
      have g1 := kR.frozen 1
      go_wp2
      refine bodyPost_ret (results_cell_row rfl _ _ w.heap.size 26 #[.int .i64 11, .slice aS MS.length cS] (0, 0) _ rfl (kR.b2 _ _) Tryz.underlying26 rfl (by kernel_rfl)) rfl ?_
      exact ⟨_, MS, _, rfl, ⟨by omega, by omega⟩, by rw [HLS.out]; first | omega | decide, (oS.setD (by omega) _ _).mono (by omega), ((s9.below bbS).keep (Below.setD (Below.refl w.heap.size wS) (Nat.le_refl _) _ _) hlt).mono (by omega), (mm9.new (bbS.mono hle9) (by omega)).new (Below.setD (Below.refl w.heap.size wS) (Nat.le_refl _) _ _) (by omega)⟩
 · clear k1 k2 k3 k4 k5 k6 k7 k8
   have O0 := hide (OwnS.empty w9 (Nat.le_refl _))
   have b10 : Below w9.heap.size w9 (w9.alloc (.cells #[] 28)) := (Below.refl _ _).alloc (Nat.le_refl _) _
   have B10 := hide b10
   go_wp2_with fail
   go_loopw [13, 14] (fun v kv wr => ∃ (k : Nat) (M : List (List Int)), kv = .int .i64 k ∧ k ≤ 13 ∧ M.length ≤ k ∧ Hid (OwnS wr w9.heap.size v M) ∧ Below w9.heap.size w9 wr) (fun _ kv _ => 13 - (intOf kv).toNat)
   case atStart => exact ⟨0, [], rfl, Nat.zero_le _, Nat.zero_le _, unhide O0, unhide B10⟩
   case round =>
    clear O0 B10 b10
    obtain ⟨k, M, rfl, hk, hMl, ho, hb⟩ := hrel
    have hsz := hb.size
    rename World => wo
    by_cases hkn : k < 13
    · have hdk : decide ((k : Int) < 13) = true := decide_eq_true (by omega)
      have HH := hide ho.out.toH
      obtain ⟨w2, hw⟩ : ∃ z, z = (wo.alloc (.cells #[] 2)).alloc (.cells #[.int .i64 0, .int .i64 1, .int .i64 3, .int .i64 9] 2) := ⟨_, rfl⟩
      have b2 : Below wo.heap.size wo w2 := by rw [hw]; exact ((Below.refl _ _).alloc (Nat.le_refl _) _).alloc (by simp) _
      have o2 : Own w2 wo.heap.size (.slice (some ⟨wo.heap.size, 0, none⟩) 0 0) [] := by rw [hw]; exact (Own.empty wo (Nat.le_refl _)).alloc _
      have q2 : Blk w2 (wo.heap.size + 1) 2 #[.int .i64 0, .int .i64 1, .int .i64 3, .int .i64 9] := by rw [hw]; exact Blk.new _ _ _ (by simp)
      have zq := q2.lt
      have RL := hide (Rd.blk q2 [0, 1, 3, 9] rfl (by simp))
      have O2 := hide o2
      have HW := Lib.hid hw
      clear ho o2 hw q2
      go_wp2_with fail
      rw [← HW.out]
      go_loopw [15, 97] (fun v jv wr => ∃ (j : Nat) (X : List Int), jv = .int .i64 j ∧ j ≤ 4 ∧ X.length ≤ j ∧ Hid (Own wr wo.heap.size v X) ∧ Below w2.heap.size w2 wr) (fun _ jv _ => 4 - (intOf jv).toNat)
      case atStart => exact ⟨0, [], rfl, Nat.zero_le _, Nat.le_refl _, unhide O2, Below.refl _ _⟩
      case round =>
       clear O2
       obtain ⟨j, X, rfl, hj, hXl, hx, hb2⟩ := hrel
       have hz2 := hb2.size
       by_cases hjm : j < 4
       · have rl := ((unhide RL).below hb2)
         obtain ⟨bb, oo, e1, _, hcl⟩ := rl.at_ (by simp)
         injection e1 with e1
         injection e1 with e1 e2
         subst e1
         subst e2
         have hc := hcl j (by simpa using hjm)
         rw [Nat.zero_add] at hc
         obtain ⟨y, hy⟩ : ∃ y, y = nth [0, 1, 3, 9] j := ⟨_, rfl⟩
         rw [← hy] at hc
         obtain ⟨ax, cx, rfl, rx, _⟩ := hx.out.form
         have HP := hide (fun (q : Int) => l00PutV_any ax cx X q wr rx (by omega))
         have HPL := hide (fun (q : Int) => putV_len q X)
         clear hx rx rl hcl hy
         go_wp2_with fail
         refine (unhide HP _).mono ?_
         rintro e w3 ⟨v3, rfl, o3, b3⟩
         have O3 := hide (o3.mono (by omega : wo.heap.size ≤ wr.heap.size))
         have bb3 := hb2.trans (b3.mono hz2)
         clear o3 hc
         go_wp2_with fail
         go_roundw
         case rel => exact ⟨j + 1, _, by go_num, by omega, Nat.le_trans (unhide HPL _) (by omega), unhide O3, bb3⟩
         case measure => simp only [intOf]; omega
       · obtain rfl : j = 4 := by omega
         obtain ⟨ax, cx, rfl, rx, _⟩ := hx.out.form
         have OR := hide hx.out
         have bw : Below wo.heap.size wo wr := b2.trans (hb2.mono (by omega))
         have hzw : w9.heap.size ≤ wo.heap.size := by omega
         have zw := bw.size
         clear hx rx
         go_wp2_with (at_builtin; refine wpList_append_row rfl (.tmp 108) (.tmp 110) rfl (v := u13) rfl ((unhide HH).belw (bw.alloc zw _) (Nat.le_refl _)) _ rfl ((Blk.new wr 28 #[.slice ax X.length cx] rfl).cell 0) ((unhide OR).alloc _) hzw (by simp; omega) (by omega) ?_; intro v6 w6 o6 g6 _)
         have b6 : Below w9.heap.size w9 w6 := Below.stepS ((hb.trans (bw.mono hzw)).alloc (by omega) _) g6 ((unhide HH).belw (bw.alloc zw _) (Nat.le_refl _)).own (Nat.le_refl _) (by simp; omega)
         have O6 := hide o6
         clear o6 g6
         go_roundw
         case rel => exact ⟨k + 1, _, by first | rfl | go_num, by omega, by rw [List.length_append]; simp; omega, unhide O6, b6⟩
         case measure => simp only [intOf]; omega
    · have HML := hide hMl
      obtain ⟨na, nc, rfl, hnr⟩ := ho.out.form
      have HSO := hide (l10SortG_any na nc M wo hnr (by omega))
      clear ho hnr
      go_wp2_with fail
      refine (unhide HSO).mono ?_
      rintro e wS ⟨vS, MS, rfl, _, hlS, _, oS, bS⟩
      have HLS := Lib.hid hlS
      clear hlS
      obtain ⟨aS, cS, rfl, _⟩ := oS.form
      have bbS : Below w9.heap.size w9 wS := hb.trans (bS.mono (by omega))
      have kR := unhide BX wS bbS
      have zS := bS.size
      have f0 := kR.cell 0
      have f1 := kR.cell 1
      have g0 := kR.frozen 0
      have g1 := kR.frozen 1
      go_wp2
      refine bodyPost_ret (results_cell_row rfl _ _ w.heap.size 26 #[.int .i64 13, .slice aS MS.length cS] (0, 0) _ rfl (kR.b2 _ _) Tryz.underlying26 rfl (by kernel_rfl)) rfl ?_
      exact ⟨_, MS, _, rfl, ⟨by omega, by omega⟩, by rw [HLS.out]; first | omega | decide, (oS.setD (by omega) _ _).mono (by omega), ((s9.below bbS).keep (Below.setD (Below.refl w.heap.size wS) (Nat.le_refl _) _ _) hlt).mono (by omega), (mm9.new (bbS.mono hle9) (by omega)).new (Below.setD (Below.refl w.heap.size wS) (Nat.le_refl _) _ _) (by omega)⟩
end Go.Proofs.YtkiljcbejmiioaaGreat
namespace Go.Proofs.YtkiljcbejmiioaaGreat
open Go.RowKit
attribute [local go_sem ↓] Go.wp_at_zero Go.wp_at_succ
theorem ownsRow_farL {w w' : World} {B e size n : Nat} {v : Value} {vs : List Value} {g : Nat} {t : TypeId} {cs : Array Value} (h : w.ownsRow B e size v n vs) (hb : Blk w g t cs) (hne : t ≠ e) (hk : ∀ q, q ≠ g → w'.heap[q]? = w.heap[q]?) : w'.ownsRow B e size v n vs := by
 obtain ⟨h1, h2⟩ := h
 refine ⟨h1, ?_⟩
 rcases h2 with h2 | ⟨g', cap, cur, rfl, hB, hg, hr⟩
 · exact .inl h2
 · refine .inr ⟨g', cap, cur, rfl, hB, (hk g' fun e => ?_).trans hg, hr⟩
   subst e
   have hb' : w.heap[g']? = _ := hb
   rw [hb'] at hg
   injection hg with hg
   injection hg with _ h3 _
   exact hne h3
theorem OwnS.farL {w w' : World} {B : Nat} {v : Value} {xss : List (List Int)} (h : OwnS w B v xss) {g : Nat} {t : TypeId} {cs : Array Value} (hb : Blk w g t cs) (h1 : t ≠ 28) (h2 : t ≠ 2) (hk : ∀ q, q ≠ g → w'.heap[q]? = w.heap[q]?) : OwnS w' B v xss := by
 obtain ⟨hl, vs, hr, hi⟩ := h
 exact ⟨hl, vs, ownsRow_farL hr hb h1 hk, ⟨hi.1, fun i x hx => ⟨(hi.2.1 i x hx).1, ownsRow_farL (hi.2.1 i x hx).2 hb h2 hk⟩, hi.2.2⟩⟩
theorem OwnS.ne_blk {w : World} {B : Nat} {v : Value} {xss : List (List Int)} (h : OwnS w B v xss) {g : Nat} {t : TypeId} {cs : Array Value} (hb : Blk w g t cs) (h1 : t ≠ 28) : ∀ k, v.ownBlock = some k → k ≠ g := by
 obtain ⟨_, vs, hr, _⟩ := h
 intro k hk e
 subst e
 rcases hr.2 with ⟨rfl, _⟩ | ⟨g', cap, cur, rfl, hB, hg, _⟩
 · simp [Value.ownBlock] at hk
 · simp only [Value.ownBlock, Option.some.injEq] at hk
   subst hk
   have hb' : w.heap[g']? = _ := hb
   rw [hb'] at hg
   injection hg with hg
   injection hg with _ h3 _
   exact h1 h3
theorem Blk.grownL {w w' : World} {g : Nat} {t : TypeId} {cs : Array Value} (h : Blk w g t cs) {r : Option Nat} (hg : w.grownBy w' r) (hne : ∀ k, r = some k → k ≠ g) : Blk w' g t cs := (hg.block g h.lt (fun e => hne g e.symm rfl)).trans h
theorem set_heapL (w : World) (g i : Nat) (v : Value) : ∀ q, q ≠ g → (w.setCell ⟨g, i, none⟩ v).heap[q]? = w.heap[q]? := fun q hq => Below.heap_setCell w ⟨g, i, none⟩ v q hq
theorem l10Draw_any (s T : Nat) (w : World) (h : Src w s T) (hT : T ≤ 100000) : Calls Tryz.prog 110 #[.pointer (some ⟨s, 0, none⟩)] w (DesDS w s (T + 2000) 200) := by
 have hlt := h.lt
 obtain ⟨W0, hW0⟩ : ∃ z, z = w.alloc (.cells #[.int .i64 0, .slice none 0 0] 26) := ⟨_, rfl⟩
 have b0 : Below w.heap.size w W0 := by rw [hW0]; exact (Below.refl _ _).alloc (Nat.le_refl _) _
 have k0 : Blk W0 w.heap.size 26 #[.int .i64 0, .slice none 0 0] := by rw [hW0]; exact Blk.new _ _ _ rfl
 have z0 : w.heap.size < W0.heap.size := k0.lt
 have m0 : Mk w W0 s (s + 1) := Mk.alloc b0 (by omega)
 have H1 := hide (one_any s T 2 W0 (h.below b0) (by omega))
 have HW := Lib.hid hW0
 clear hW0 h
 go_enter Tryz.func110, Tryz.ntmps110
 go_upto_region 1 with fail
 rw [← HW.out]
 go_wp2_with fail
 refine (unhide H1).mono ?_
 rintro e w1 ⟨b, rfl, s1, m1⟩
 have mm1 := m0.trans m1
 have z1 := m1.size
 have k1 := k0.kp (m1.kp (.inr (by omega)) z0)
 clear m1 H1
 cases b with
 | true =>
  have H2 := hide (l10Known_any s (T + 2) w1 s1 (by omega))
  go_wp2_with fail
  refine (unhide H2).mono ?_
  rintro e w2 ⟨p, M, v2, rfl, hp, hMl, o2, s2, m2⟩
  obtain ⟨a2, c2, rfl, _⟩ := o2.form
  have mm2 := mm1.trans m2
  have z2 := m2.size
  have kR := k1.kp (m2.kp (.inr (by omega)) (by omega))
  have S2 := hide s2
  clear s2
  have f0 := kR.cell 0
  have f1 := kR.cell 1
  have g0 := kR.frozen 0
  have g1 := kR.frozen 1
  go_wp2
  refine bodyPost_ret (results_cell_row rfl _ _ w.heap.size 26 #[.int .i64 p, .slice a2 M.length c2] (0, 0) _ rfl (kR.b2 _ _) Tryz.underlying26 rfl (by kernel_rfl)) rfl ?_
  exact ⟨_, M, _, rfl, hp, hMl, (o2.setD (by omega) _ _).mono (by omega), (((unhide S2)).keep (Below.setD (Below.refl w.heap.size w2) (Nat.le_refl _) _ _) hlt).mono (by omega), (mm2).new (Below.setD (Below.refl w.heap.size w2) (Nat.le_refl _) _ _) (by omega)⟩
 | false =>
  have H2 := hide (pick_any s (T + 2) 9 w1 s1 (by omega))
  go_wp2_with fail
  refine (unhide H2).mono ?_
  rintro e w2 ⟨y, rfl, hy, _, s2, m2⟩
  have hy8 : y ≤ 8 := by omega
  obtain ⟨N, hN⟩ : ∃ N : Nat, N = 1 + y := ⟨_, rfl⟩
  have hN9 : N ≤ 9 := by omega
  have hNw : IntKind.i64.wrap (1 + (y : Int)) = (N : Int) := by rw [IntWalk.i64_in _ (by omega)]; omega
  have H3 := hide (l10DrawBlocks_any s (T + 4) N w2 (s2.mono (by omega)) (by omega))
  have mm2 := mm1.trans m2
  have z2 := m2.size
  have k2 := k1.kp (m2.kp (.inr (by omega)) (by omega))
  clear hN hy hy8 s2 m2 H2 s1
  go_wp2_with fail
  refine (unhide H3).mono ?_
  rintro e w3 ⟨v3, M3, rfl, hMl3, o3, s3, m3⟩
  obtain ⟨a3, c3, rfl, r3⟩ := o3.form
  have H4 := hide (l10SortG_any a3 c3 M3 w3 r3 (by omega))
  have mm3 := mm2.trans m3
  have z3 := m3.size
  have k3 := k2.kp (m3.kp (.inr (by omega)) (by omega))
  clear o3 r3 m3 H3
  go_wp2_with fail
  refine (unhide H4).mono ?_
  rintro e w4 ⟨v4, M, rfl, _, hl4, _, o4, b4⟩
  have HL := hide (show M.length ≤ 200 by omega)
  clear hl4
  obtain ⟨a2, c2, rfl, _⟩ := o4.form
  have z4 := b4.size
  have kR := k3.below b4 (by omega)
  have mm4 := mm3.new (b4.mono mm3.size) (by omega)
  have S2 := hide (s3.below b4)
  clear s3
  have f0 := kR.cell 0
  have f1 := kR.cell 1
  have g0 := kR.frozen 0
  have g1 := kR.frozen 1
  go_wp2
  refine bodyPost_ret (results_cell_row rfl _ _ w.heap.size 26 #[.int .i64 N, .slice a2 M.length c2] (0, 0) _ rfl (kR.b2 _ _) Tryz.underlying26 rfl (by kernel_rfl)) rfl ?_
  exact ⟨_, M, _, rfl, ⟨by omega, by omega⟩, unhide HL, (o4.setD (by omega) _ _).mono (by omega), (((unhide S2)).keep (Below.setD (Below.refl w.heap.size w4) (Nat.le_refl _) _ _) hlt).mono (by omega), (mm4).new (Below.setD (Below.refl w.heap.size w4) (Nat.le_refl _) _ _) (by omega)⟩
def boxLen (w : World) (g : Nat) : Nat := match w.cell? ⟨g, 1, none⟩ with
 | some (.slice _ n _) => n
 | _ => 0
theorem l10Bent_any (s T : Nat) (w : World) (h : Src w s T) (hT : T ≤ 10000) : Calls Tryz.prog 55 #[.pointer (some ⟨s, 0, none⟩)] w (DesDS w s (T + 4000) 300) := by
 have hlt := h.lt
 obtain ⟨W0, hW0⟩ : ∃ z, z = w.alloc (.cells #[.int .i64 0, .slice none 0 0] 26) := ⟨_, rfl⟩
 have b0 : Below w.heap.size w W0 := by rw [hW0]; exact (Below.refl _ _).alloc (Nat.le_refl _) _
 have k0 : Blk W0 w.heap.size 26 #[.int .i64 0, .slice none 0 0] := by rw [hW0]; exact Blk.new _ _ _ rfl
 have z0 : w.heap.size < W0.heap.size := k0.lt
 have m0 : Mk w W0 s (s + 1) := Mk.alloc b0 (by omega)
 have H1 := hide (l10Draw_any s T W0 (h.below b0) (by omega))
 have HW := Lib.hid hW0
 clear hW0 h
 go_enter Tryz.func55, Tryz.ntmps55
 go_upto_region 1 with fail
 rw [← HW.out]
 go_wp2_with fail
 refine (unhide H1).mono ?_
 rintro e w1 ⟨p, M, v1, rfl, hp, hMl, o1, s1, m1⟩
 obtain ⟨a, c, rfl, _⟩ := o1.form
 have z1 := m1.size
 have k1 := k0.kp (m1.kp (.inr (by omega)) z0)
 have mm1 := m0.trans m1
 obtain ⟨W1, hW1⟩ : ∃ z, z = w1.alloc (.cells #[.int .i64 p, .slice a M.length c] 26) := ⟨_, rfl⟩
 have b1 : Below w1.heap.size w1 W1 := by rw [hW1]; exact (Below.refl _ _).alloc (Nat.le_refl _) _
 have d1 : Blk W1 w1.heap.size 26 #[.int .i64 p, .slice a M.length c] := by rw [hW1]; exact Blk.new _ _ _ rfl
 have y1 := d1.lt
 have q1 := k1.below b1 (by omega)
 have O1 := hide (o1.below b1 (Nat.le_refl _))
 have H2 := hide (pick_any s (T + 2000) 24 W1 (s1.below b1) (by omega))
 have mmW := mm1.new (b1.mono (by omega)) (by omega)
 have HW1 := Lib.hid hW1
 clear hW1 o1 s1 m1 k1 H1
 go_upto_region 2 with fail
 rw [← HW1.out]
 go_wp2_with fail
 refine (unhide H2).mono ?_
 rintro e w2 ⟨x, rfl, hx, _, s2, m2⟩
 have z2 := m2.size
 have d2 := d1.kp (m2.kp (.inr (by omega)) y1)
 have kR := q1.kp (m2.kp (.inr (by omega)) (by omega))
 have o2 := (unhide O1).mk m2 (by omega)
 have mm2 := mmW.trans m2
 have hg3 : W0.heap.size ≤ w1.heap.size := z1
 have hg3' : w1.heap.size < w2.heap.size := by omega
 have S2 := hide s2
 have hx24 : x < 24 := by omega
 clear m2 s2 hx H2 O1 d1 q1 HW HW1
 by_cases h0 : x = 0
 · have x0 : ((x : Int) == 0) = true := by rw [beq_iff_eq]; omega
   have H3 := hide (among_new s (T + 2000 + 2) [0, 32, 33] w2 (unhide S2) (by omega) (by decide) (by decide) rfl rfl)
   have e0 := d2.cell 0
   have g0 := d2.frozen 0
   clear hx24
   go_wp2_with fail
   refine (unhide H3).mono ?_
   rintro e w3 ⟨i, hi, rfl, s3, m3⟩
   have hb := nth_all (P := fun q => 0 ≤ q ∧ q ≤ 33) hi (by decide)
   generalize nth [0, 32, 33] i = q at hb
   have z3 := m3.size
   have d3 := d2.kp (m3.kp (.inr (by omega)) hg3')
   have kR3 := kR.kp (m3.kp (.inr (by omega)) (by omega))
   have o3 := o2.mk m3 (by omega)
   have mm3 := mm2.trans m3
   obtain ⟨w4, h4⟩ : ∃ z, z = w3.setCell ⟨w1.heap.size, 0, none⟩ (.int .i64 q) := ⟨_, rfl⟩
   have d4 : Blk w4 w1.heap.size 26 #[.int .i64 q, .slice a M.length c] := by rw [h4]; exact d3.set_ 0 _
   have kR4 : Blk w4 w.heap.size 26 #[.int .i64 0, .slice none 0 0] := by rw [h4]; exact kR3.far (by show w.heap.size ≠ w1.heap.size; omega) _
   have o4 : OwnS w4 W0.heap.size (.slice a M.length c) M := by rw [h4]; exact o3.farL d3 (by decide) (by decide) (set_heapL _ _ _ _)
   have b4 : Below w.heap.size w3 w4 := by rw [h4]; exact (Below.refl _ _).setCell (p := ⟨w1.heap.size, 0, none⟩) (by show w.heap.size ≤ w1.heap.size; omega) _
   have s4 := s3.keep b4 hlt
   have mm4 := mm3.new b4 (by omega)
   have z4 := b4.size
   have H4 := Lib.hid h4
   clear e0 g0 d2 kR o2 o3 s3 h4
   have e0 := d3.cell 0
   have g0 := d3.frozen 0
   clear d3 kR3
   go_upto_region 16 with fail
   rw [← H4.out]
   clear e0 g0
   have e0 := (d4).cell 0
   have e1 := (d4).cell 1
   have kR := kR4
   have f0 := kR.cell 0
   have f1 := kR.cell 1
   have g0 := kR.frozen 0
   have g1 := kR.frozen 1
   go_wp2
   refine bodyPost_ret (results_cell_row rfl _ _ w.heap.size 26 #[.int .i64 q, .slice a M.length c] (0, 0) _ rfl (kR.b2 _ _) Tryz.underlying26 rfl (by kernel_rfl)) rfl ?_
   exact ⟨_, M, _, rfl, ⟨by omega, by omega⟩, by omega, (o4.setD (by omega) _ _).mono (by omega), ((s4).keep (Below.setD (Below.refl w.heap.size w4) (Nat.le_refl _) _ _) hlt).mono (by omega), (mm4).new (Below.setD (Below.refl w.heap.size w4) (Nat.le_refl _) _ _) (by omega)⟩
 by_cases h1 : x = 1
 · have x0 : ((x : Int) == 0) = false := by rw [beq_eq_false_iff_ne]; omega
   have x1 : ((x : Int) == 1) = true := by rw [beq_iff_eq]; omega
   have e0 := d2.cell 0
   have e1 := d2.cell 1
   have g1 := d2.frozen 1
   have HH := hide o2.toH
   have hnb := o2.ne_blk d2 (by decide)
   have hlo : ∀ q, Value.ownBlock (.slice a M.length c) = some q → W0.heap.size ≤ q := fun q hq => (o2.inn q hq).1
   obtain ⟨w3, hw⟩ : ∃ z, z = w2.alloc (.cells #[] 2) := ⟨_, rfl⟩
   have b3 : Below w2.heap.size w2 w3 := by rw [hw]; exact (Below.refl _ _).alloc (Nat.le_refl _) _
   have o3 : Own w3 w2.heap.size (.slice (some ⟨w2.heap.size, 0, none⟩) 0 0) [] := by rw [hw]; exact Own.lits w2 [] rfl rfl (by simp)
   have s3 : w3.heap.size = w2.heap.size + 1 := by rw [hw]; simp
   have HW := Lib.hid hw
   have OR := hide o3
   have zb := b3.size
   have hz1 : W0.heap.size ≤ w2.heap.size := by omega
   have HNB := hide hnb
   have HLO := hide hlo
   have D2 := hide d2
   have KR := hide kR
   clear o2 o3 hw hnb hlo d2 kR hx24
   go_upto_region 16 with (at_builtin; rw [← HW.out]; refine wpList_append_row rfl (.tmp 18) (.tmp 20) rfl (v := .slice a M.length c) rfl ((unhide HH).belw (b3.alloc zb _) (Nat.le_refl _)) _ rfl ((Blk.new w3 28 #[.slice (some ⟨w2.heap.size, 0, none⟩) 0 0] s3.symm).cell 0) ((unhide OR).alloc _) hz1 (by simp; omega) (by omega) ?_; intro v5 w5 o5 g5 _; obtain ⟨a5, c5, rfl, _⟩ := o5.form; obtain ⟨M5, hM5⟩ : ∃ z, z = M ++ [[]] := ⟨_, rfl⟩; rw [← hM5] at o5; have hl5 : M5.length ≤ 299 + 1 := (by rw [hM5, List.length_append]; simp; omega); rw [← hM5]; clear hM5; have dA : Blk (w3.alloc (.cells #[.slice (some ⟨w2.heap.size, 0, none⟩) 0 0] 28)) w1.heap.size 26 #[.int .i64 p, .slice a M.length c] := ((unhide D2).below b3 hg3').alloc _; have d5 := dA.grownL g5 (unhide HNB); have k5 := (((unhide KR).below b3 (by omega)).alloc (.cells #[.slice (some ⟨w2.heap.size, 0, none⟩) 0 0] 28)).grownL g5 (fun q hq e => by have := unhide HLO q hq; omega); clear e0 e1 g1; have e0 := d5.cell 0; have e1 := d5.cell 1; have g1 := d5.frozen 1)
   have bg : Below w.heap.size w2 w5 := ((b3.mono (by omega)).alloc (by omega) _).grown g5 (by simp; omega) (fun q hq => by have := unhide HLO q hq; omega)
   obtain ⟨w6, h6⟩ : ∃ z, z = w5.setCell ⟨w1.heap.size, 1, none⟩ (.slice a5 M5.length c5) := ⟨_, rfl⟩
   rw [← h6]
   have d6 : Blk w6 w1.heap.size 26 #[.int .i64 p, .slice a5 M5.length c5] := by rw [h6]; exact d5.set_ 1 _
   have kR6 : Blk w6 w.heap.size 26 #[.int .i64 0, .slice none 0 0] := by rw [h6]; exact k5.far (by show w.heap.size ≠ w1.heap.size; omega) _
   have o6 : OwnS w6 W0.heap.size (.slice a5 M5.length c5) M5 := by rw [h6]; exact o5.farL d5 (by decide) (by decide) (set_heapL _ _ _ _)
   have b6 : Below w.heap.size w2 w6 := by rw [h6]; exact bg.setCell (p := ⟨w1.heap.size, 1, none⟩) (by show w.heap.size ≤ w1.heap.size; omega) _
   have s6 := (unhide S2).keep b6 hlt
   have mm6 := mm2.new b6 (by omega)
   have z6 := b6.size
   clear h6 e0 e1 g1 d5 k5 o5 g5
   have e0 := (d6).cell 0
   have e1 := (d6).cell 1
   have kR := kR6
   have f0 := kR.cell 0
   have f1 := kR.cell 1
   have g0 := kR.frozen 0
   have g1 := kR.frozen 1
   go_wp2
   refine bodyPost_ret (results_cell_row rfl _ _ w.heap.size 26 #[.int .i64 p, .slice a5 M5.length c5] (0, 0) _ rfl (kR.b2 _ _) Tryz.underlying26 rfl (by kernel_rfl)) rfl ?_
   exact ⟨_, M5, _, rfl, hp, hl5, (o6.setD (by omega) _ _).mono (by omega), ((s6).keep (Below.setD (Below.refl w.heap.size w6) (Nat.le_refl _) _ _) hlt).mono (by omega), (mm6).new (Below.setD (Below.refl w.heap.size w6) (Nat.le_refl _) _ _) (by omega)⟩
 by_cases h2 : x = 2
 · have x0 : ((x : Int) == 0) = false := by rw [beq_eq_false_iff_ne]; omega
   have x1 : ((x : Int) == 1) = false := by rw [beq_eq_false_iff_ne]; omega
   have x2 : ((x : Int) == 2) = true := by rw [beq_iff_eq]; omega
   have e0 := d2.cell 0
   have e1 := d2.cell 1
   have g1 := d2.frozen 1
   have HH := hide o2.toH
   have hnb := o2.ne_blk d2 (by decide)
   have hlo : ∀ q, Value.ownBlock (.slice a M.length c) = some q → W0.heap.size ≤ q := fun q hq => (o2.inn q hq).1
   obtain ⟨w3, hw⟩ : ∃ z, z = w2.alloc (.cells #[.int .i64 0] 2) := ⟨_, rfl⟩
   have b3 : Below w2.heap.size w2 w3 := by rw [hw]; exact (Below.refl _ _).alloc (Nat.le_refl _) _
   have o3 : Own w3 w2.heap.size (.slice (some ⟨w2.heap.size, 0, none⟩) 1 1) [0] := by rw [hw]; exact Own.lits w2 [0] rfl rfl (by simp)
   have s3 : w3.heap.size = w2.heap.size + 1 := by rw [hw]; simp
   have HW := Lib.hid hw
   have OR := hide o3
   have zb := b3.size
   have hz1 : W0.heap.size ≤ w2.heap.size := by omega
   have HNB := hide hnb
   have HLO := hide hlo
   have D2 := hide d2
   have KR := hide kR
   clear o2 o3 hw hnb hlo d2 kR hx24
   go_upto_region 16 with (at_builtin; rw [← HW.out]; refine wpList_append_row rfl (.tmp 26) (.tmp 28) rfl (v := .slice a M.length c) rfl ((unhide HH).belw (b3.alloc zb _) (Nat.le_refl _)) _ rfl ((Blk.new w3 28 #[.slice (some ⟨w2.heap.size, 0, none⟩) 1 1] s3.symm).cell 0) ((unhide OR).alloc _) hz1 (by simp; omega) (by omega) ?_; intro v5 w5 o5 g5 _; obtain ⟨a5, c5, rfl, _⟩ := o5.form; obtain ⟨M5, hM5⟩ : ∃ z, z = M ++ [[0]] := ⟨_, rfl⟩; rw [← hM5] at o5; have hl5 : M5.length ≤ 299 + 1 := (by rw [hM5, List.length_append]; simp; omega); rw [← hM5]; clear hM5; have dA : Blk (w3.alloc (.cells #[.slice (some ⟨w2.heap.size, 0, none⟩) 1 1] 28)) w1.heap.size 26 #[.int .i64 p, .slice a M.length c] := ((unhide D2).below b3 hg3').alloc _; have d5 := dA.grownL g5 (unhide HNB); have k5 := (((unhide KR).below b3 (by omega)).alloc (.cells #[.slice (some ⟨w2.heap.size, 0, none⟩) 1 1] 28)).grownL g5 (fun q hq e => by have := unhide HLO q hq; omega); clear e0 e1 g1; have e0 := d5.cell 0; have e1 := d5.cell 1; have g1 := d5.frozen 1)
   have bg : Below w.heap.size w2 w5 := ((b3.mono (by omega)).alloc (by omega) _).grown g5 (by simp; omega) (fun q hq => by have := unhide HLO q hq; omega)
   obtain ⟨w6, h6⟩ : ∃ z, z = w5.setCell ⟨w1.heap.size, 1, none⟩ (.slice a5 M5.length c5) := ⟨_, rfl⟩
   rw [← h6]
   have d6 : Blk w6 w1.heap.size 26 #[.int .i64 p, .slice a5 M5.length c5] := by rw [h6]; exact d5.set_ 1 _
   have kR6 : Blk w6 w.heap.size 26 #[.int .i64 0, .slice none 0 0] := by rw [h6]; exact k5.far (by show w.heap.size ≠ w1.heap.size; omega) _
   have o6 : OwnS w6 W0.heap.size (.slice a5 M5.length c5) M5 := by rw [h6]; exact o5.farL d5 (by decide) (by decide) (set_heapL _ _ _ _)
   have b6 : Below w.heap.size w2 w6 := by rw [h6]; exact bg.setCell (p := ⟨w1.heap.size, 1, none⟩) (by show w.heap.size ≤ w1.heap.size; omega) _
   have s6 := (unhide S2).keep b6 hlt
   have mm6 := mm2.new b6 (by omega)
   have z6 := b6.size
   clear h6 e0 e1 g1 d5 k5 o5 g5
   have e0 := (d6).cell 0
   have e1 := (d6).cell 1
   have kR := kR6
   have f0 := kR.cell 0
   have f1 := kR.cell 1
   have g0 := kR.frozen 0
   have g1 := kR.frozen 1
   go_wp2
   refine bodyPost_ret (results_cell_row rfl _ _ w.heap.size 26 #[.int .i64 p, .slice a5 M5.length c5] (0, 0) _ rfl (kR.b2 _ _) Tryz.underlying26 rfl (by kernel_rfl)) rfl ?_
   exact ⟨_, M5, _, rfl, hp, hl5, (o6.setD (by omega) _ _).mono (by omega), ((s6).keep (Below.setD (Below.refl w.heap.size w6) (Nat.le_refl _) _ _) hlt).mono (by omega), (mm6).new (Below.setD (Below.refl w.heap.size w6) (Nat.le_refl _) _ _) (by omega)⟩
 by_cases h3 : x = 3
 · have x0 : ((x : Int) == 0) = false := by rw [beq_eq_false_iff_ne]; omega
   have x1 : ((x : Int) == 1) = false := by rw [beq_eq_false_iff_ne]; omega
   have x2 : ((x : Int) == 2) = false := by rw [beq_eq_false_iff_ne]; omega
   have x3 : ((x : Int) == 3) = true := by rw [beq_iff_eq]; omega
   have e0 := d2.cell 0
   have e1 := d2.cell 1
   have g1 := d2.frozen 1
   have HH := hide o2.toH
   have hnb := o2.ne_blk d2 (by decide)
   have hlo : ∀ q, Value.ownBlock (.slice a M.length c) = some q → W0.heap.size ≤ q := fun q hq => (o2.inn q hq).1
   obtain ⟨w3, hw⟩ : ∃ z, z = w2.alloc (.cells #[.int .i64 p] 2) := ⟨_, rfl⟩
   have b3 : Below w2.heap.size w2 w3 := by rw [hw]; exact (Below.refl _ _).alloc (Nat.le_refl _) _
   have o3 : Own w3 w2.heap.size (.slice (some ⟨w2.heap.size, 0, none⟩) 1 1) [p] := by rw [hw]; exact Own.lits w2 [p] rfl rfl (by simp)
   have s3 : w3.heap.size = w2.heap.size + 1 := by rw [hw]; simp
   have HW := Lib.hid hw
   have OR := hide o3
   have zb := b3.size
   have hz1 : W0.heap.size ≤ w2.heap.size := by omega
   have HNB := hide hnb
   have HLO := hide hlo
   have D2 := hide d2
   have KR := hide kR
   clear o2 o3 hw hnb hlo d2 kR hx24
   go_upto_region 16 with (at_builtin; rw [← HW.out]; refine wpList_append_row rfl (.tmp 34) (.tmp 38) rfl (v := .slice a M.length c) rfl ((unhide HH).belw (b3.alloc zb _) (Nat.le_refl _)) _ rfl ((Blk.new w3 28 #[.slice (some ⟨w2.heap.size, 0, none⟩) 1 1] s3.symm).cell 0) ((unhide OR).alloc _) hz1 (by simp; omega) (by omega) ?_; intro v5 w5 o5 g5 _; obtain ⟨a5, c5, rfl, _⟩ := o5.form; obtain ⟨M5, hM5⟩ : ∃ z, z = M ++ [[p]] := ⟨_, rfl⟩; rw [← hM5] at o5; have hl5 : M5.length ≤ 299 + 1 := (by rw [hM5, List.length_append]; simp; omega); rw [← hM5]; clear hM5; have dA : Blk (w3.alloc (.cells #[.slice (some ⟨w2.heap.size, 0, none⟩) 1 1] 28)) w1.heap.size 26 #[.int .i64 p, .slice a M.length c] := ((unhide D2).below b3 hg3').alloc _; have d5 := dA.grownL g5 (unhide HNB); have k5 := (((unhide KR).below b3 (by omega)).alloc (.cells #[.slice (some ⟨w2.heap.size, 0, none⟩) 1 1] 28)).grownL g5 (fun q hq e => by have := unhide HLO q hq; omega); clear e0 e1 g1; have e0 := d5.cell 0; have e1 := d5.cell 1; have g1 := d5.frozen 1)
   have bg : Below w.heap.size w2 w5 := ((b3.mono (by omega)).alloc (by omega) _).grown g5 (by simp; omega) (fun q hq => by have := unhide HLO q hq; omega)
   obtain ⟨w6, h6⟩ : ∃ z, z = w5.setCell ⟨w1.heap.size, 1, none⟩ (.slice a5 M5.length c5) := ⟨_, rfl⟩
   rw [← h6]
   have d6 : Blk w6 w1.heap.size 26 #[.int .i64 p, .slice a5 M5.length c5] := by rw [h6]; exact d5.set_ 1 _
   have kR6 : Blk w6 w.heap.size 26 #[.int .i64 0, .slice none 0 0] := by rw [h6]; exact k5.far (by show w.heap.size ≠ w1.heap.size; omega) _
   have o6 : OwnS w6 W0.heap.size (.slice a5 M5.length c5) M5 := by rw [h6]; exact o5.farL d5 (by decide) (by decide) (set_heapL _ _ _ _)
   have b6 : Below w.heap.size w2 w6 := by rw [h6]; exact bg.setCell (p := ⟨w1.heap.size, 1, none⟩) (by show w.heap.size ≤ w1.heap.size; omega) _
   have s6 := (unhide S2).keep b6 hlt
   have mm6 := mm2.new b6 (by omega)
   have z6 := b6.size
   clear h6 e0 e1 g1 d5 k5 o5 g5
   have e0 := (d6).cell 0
   have e1 := (d6).cell 1
   have kR := kR6
   have f0 := kR.cell 0
   have f1 := kR.cell 1
   have g0 := kR.frozen 0
   have g1 := kR.frozen 1
   go_wp2
   refine bodyPost_ret (results_cell_row rfl _ _ w.heap.size 26 #[.int .i64 p, .slice a5 M5.length c5] (0, 0) _ rfl (kR.b2 _ _) Tryz.underlying26 rfl (by kernel_rfl)) rfl ?_
   exact ⟨_, M5, _, rfl, hp, hl5, (o6.setD (by omega) _ _).mono (by omega), ((s6).keep (Below.setD (Below.refl w.heap.size w6) (Nat.le_refl _) _ _) hlt).mono (by omega), (mm6).new (Below.setD (Below.refl w.heap.size w6) (Nat.le_refl _) _ _) (by omega)⟩
 by_cases h4 : x = 4
 · have x0 : ((x : Int) == 0) = false := by rw [beq_eq_false_iff_ne]; omega
   have x1 : ((x : Int) == 1) = false := by rw [beq_eq_false_iff_ne]; omega
   have x2 : ((x : Int) == 2) = false := by rw [beq_eq_false_iff_ne]; omega
   have x3 : ((x : Int) == 3) = false := by rw [beq_eq_false_iff_ne]; omega
   have x4 : ((x : Int) == 4) = true := by rw [beq_iff_eq]; omega
   have e0 := d2.cell 0
   have e1 := d2.cell 1
   have g0 := d2.frozen 0
   have g1 := d2.frozen 1
   obtain ⟨w3, h3⟩ : ∃ z, z = (w2.setCell ⟨w1.heap.size, 0, none⟩ (.int .i64 3)).setCell ⟨w1.heap.size, 1, none⟩ (.slice none 0 0) := ⟨_, rfl⟩
   have d3 : Blk w3 w1.heap.size 26 #[.int .i64 3, .slice none 0 0] := by rw [h3]; exact d2.b2 _ _
   have kR3 : Blk w3 w.heap.size 26 #[.int .i64 0, .slice none 0 0] := by rw [h3]; exact (kR.far (by show w.heap.size ≠ w1.heap.size; omega) _).far (by show w.heap.size ≠ w1.heap.size; omega) _
   have b3 : Below w.heap.size w2 w3 := by rw [h3]; exact ((Below.refl _ _).setCell (p := ⟨w1.heap.size, 0, none⟩) (by show w.heap.size ≤ w1.heap.size; omega) _).setCell (p := ⟨w1.heap.size, 1, none⟩) (by show w.heap.size ≤ w1.heap.size; omega) _
   have s3 := (unhide S2).keep b3 hlt
   have z3 := b3.size
   have H3 := hide (pick_any s (T + 2000 + 2) 3 w3 s3 (by omega))
   have mm3 := mm2.new b3 (by omega)
   have HW3 := Lib.hid h3
   clear h3 d2 kR o2 s3 hx24
   go_upto_region 13 with fail
   rw [← HW3.out]
   clear e0 e1 g0 g1
   go_wp2_with fail
   refine (unhide H3).mono ?_
   rintro e w4 ⟨y, rfl, hy, _, s4, m4⟩
   have hy2 : y ≤ 2 := by omega
   have z4 := m4.size
   have zz3 : w2.heap.size ≤ w3.heap.size := by have := HW3.out; rw [this]; simp
   have d4 := d3.kp (m4.kp (.inr (by omega)) (by omega))
   have kR4 := kR3.kp (m4.kp (.inr (by omega)) (by omega))
   have mm4 := mm3.trans m4
   have hsz4 : w1.heap.size < w4.heap.size := d4.lt
   obtain ⟨N, hN⟩ : ∃ N : Nat, N = 127 + y := ⟨_, rfl⟩
   have hNw : IntKind.i64.wrap (127 + (y : Int)) = (N : Int) := by rw [IntWalk.i64_in _ (by omega)]; omega
   have hN9 : N ≤ 129 := by omega
   have S4 := hide s4
   have KR4 := hide kR4
   have D4 := hide (show ∃ M4 a4 c4, M4.length ≤ N ∧ Blk w4 w1.heap.size 26 #[.int .i64 3, .slice a4 (List.length M4) c4] ∧ OwnS w4 W0.heap.size (.slice a4 (List.length M4) c4) M4 from ⟨[], none, 0, Nat.zero_le _, d4, OwnS.nil _ _⟩)
   clear hN hy hy2 s4 m4 d3 kR3 H3 d4 kR4
   go_wp2_with fail
   clear hNw
   go_loopw [51] (fun _ wr => (∃ (M4 : List (List Int)) (a4 : Option Addr) (c4 : Nat), M4.length ≤ N ∧ Blk wr w1.heap.size 26 #[.int .i64 3, .slice a4 M4.length c4] ∧ OwnS wr W0.heap.size (.slice a4 M4.length c4) M4) ∧ Below W0.heap.size w4 wr) (fun _ wr => N - boxLen wr w1.heap.size)
   case atStart => exact ⟨unhide D4, Below.refl _ _⟩
   case round =>
    clear D4
    obtain ⟨⟨M4, a4, c4, hMl4, d4, o4⟩, hb⟩ := hrel
    have hsz := hb.size
    have e0 := d4.cell 0
    have e1 := d4.cell 1
    have g1 := d4.frozen 1
    by_cases hMN : M4.length < N
    · have HH := hide o4.toH
      have hnb := o4.ne_blk d4 (by decide)
      have hlo : ∀ q, Value.ownBlock (.slice a4 M4.length c4) = some q → W0.heap.size ≤ q := fun q hq => (o4.inn q hq).1
      obtain ⟨w5, hw⟩ : ∃ z, z = wr.alloc (.cells #[.int .i64 0, .int .i64 1, .int .i64 2] 2) := ⟨_, rfl⟩
      have b5 : Below wr.heap.size wr w5 := by rw [hw]; exact (Below.refl _ _).alloc (Nat.le_refl _) _
      have o5 : Own w5 wr.heap.size (.slice (some ⟨wr.heap.size, 0, none⟩) 3 3) [0, 1, 2] := by rw [hw]; exact Own.lits wr [0, 1, 2] rfl rfl (by simp)
      have s5 : w5.heap.size = wr.heap.size + 1 := by rw [hw]; simp
      have HW := Lib.hid hw
      have OR := hide o5
      have zb := b5.size
      have hz1 : W0.heap.size ≤ wr.heap.size := by omega
      have HNB := hide hnb
      have HLO := hide hlo
      have D4 := hide d4
      have hbl : boxLen wr w1.heap.size = M4.length := by rw [boxLen, show wr.cell? ⟨w1.heap.size, 1, none⟩ = some (.slice a4 M4.length c4) from e1]
      have HBL := Lib.hid hbl
      have hMN2 : (M4.length : Int) < (N : Int) := by omega
      have hg4 : w1.heap.size < wr.heap.size := by omega
      clear o4 o5 hw hnb hlo d4 hbl
      go_wp2_with (at_builtin; rw [← HW.out]; refine wpList_append_row rfl (.tmp 53) (.tmp 55) rfl (v := .slice a4 M4.length c4) rfl ((unhide HH).belw (b5.alloc zb _) (Nat.le_refl _)) _ rfl ((Blk.new w5 28 #[.slice (some ⟨wr.heap.size, 0, none⟩) 3 3] s5.symm).cell 0) ((unhide OR).alloc _) hz1 (by simp; omega) (by omega) ?_; intro v6 w6 o6 g6 _; obtain ⟨a6, c6, rfl, _⟩ := o6.form; obtain ⟨M6, hM6⟩ : ∃ z, z = M4 ++ [[0, 1, 2]] := ⟨_, rfl⟩; rw [← hM6] at o6; have hl6 : M6.length = M4.length + 1 := (by rw [hM6, List.length_append]; rfl); rw [← hM6]; have HL6 := Lib.hid hl6; clear hM6 hl6; have d6 := ((((unhide D4).below b5 hg4).alloc (.cells #[.slice (some ⟨wr.heap.size, 0, none⟩) 3 3] 28)).grownL g6 (unhide HNB)); clear e0 e1 g1; have e0 := d6.cell 0; have e1 := d6.cell 1; have g1 := d6.frozen 1)
      have bg : Below W0.heap.size wr w6 := ((b5.mono (by omega)).alloc (by omega) _).grown g6 (by simp; omega) (unhide HLO)
      have d7 := d6.set_ 1 (.slice a6 M6.length c6)
      have o7 : OwnS (w6.setCell ⟨w1.heap.size, 1, none⟩ (.slice a6 M6.length c6)) W0.heap.size (.slice a6 M6.length c6) M6 := o6.farL d6 (by decide) (by decide) (set_heapL _ _ _ _)
      have b7 : Below W0.heap.size w4 (w6.setCell ⟨w1.heap.size, 1, none⟩ (.slice a6 M6.length c6)) := (hb.trans bg).setCell (p := ⟨w1.heap.size, 1, none⟩) hg3 _
      have hbl7 : boxLen (w6.setCell ⟨w1.heap.size, 1, none⟩ (.slice a6 M6.length c6)) w1.heap.size = M6.length := by rw [boxLen, show (w6.setCell ⟨w1.heap.size, 1, none⟩ (.slice a6 M6.length c6)).cell? ⟨w1.heap.size, 1, none⟩ = some (.slice a6 M6.length c6) from d7.cell 1]
      have D7 := hide d7
      have O7 := hide o7
      have HBL7 := Lib.hid hbl7
      clear d7 o7 hbl7 d6 o6 g6 e0 e1 g1
      go_roundw
      case rel => exact ⟨⟨M6, a6, c6, by rw [HL6.out]; omega, unhide D7, unhide O7⟩, b7⟩
      case measure => rw [HBL.out, HBL7.out, HL6.out]; omega
    · have hMN2 : ¬ (M4.length : Int) < (N : Int) := by omega
      have hMN3 : ¬ M4.length < N := by omega
      have kRr := (hb.block w.heap.size (by omega)).trans (unhide KR4)
      have kRr : Blk wr w.heap.size 26 #[.int .i64 0, .slice none 0 0] := kRr
      have s4 := (unhide S4).keep hb (by omega)
      have mm5 := mm4.new (hb.mono (by omega)) (by omega)
      clear e0 e1 g1
      have e0 := (d4).cell 0
      have e1 := (d4).cell 1
      have kR := kRr
      have f0 := kR.cell 0
      have f1 := kR.cell 1
      have g0 := kR.frozen 0
      have g1 := kR.frozen 1
      go_wp2
      refine bodyPost_ret (results_cell_row rfl _ _ w.heap.size 26 #[.int .i64 3, .slice a4 M4.length c4] (0, 0) _ rfl (kR.b2 _ _) Tryz.underlying26 rfl (by kernel_rfl)) rfl ?_
      exact ⟨_, M4, _, rfl, ⟨by omega, by omega⟩, by omega, (o4.setD (by omega) _ _).mono (by omega), ((s4).keep (Below.setD (Below.refl w.heap.size wr) (Nat.le_refl _) _ _) hlt).mono (by omega), (mm5).new (Below.setD (Below.refl w.heap.size wr) (Nat.le_refl _) _ _) (by omega)⟩
 have x0 : ((x : Int) == 0) = false := by rw [beq_eq_false_iff_ne]; omega
 have x1 : ((x : Int) == 1) = false := by rw [beq_eq_false_iff_ne]; omega
 have x2 : ((x : Int) == 2) = false := by rw [beq_eq_false_iff_ne]; omega
 have x3 : ((x : Int) == 3) = false := by rw [beq_eq_false_iff_ne]; omega
 have x4 : ((x : Int) == 4) = false := by rw [beq_eq_false_iff_ne]; omega
 clear hx24
 have e0 := (d2).cell 0
 have e1 := (d2).cell 1
 have f0 := kR.cell 0
 have f1 := kR.cell 1
 have g0 := kR.frozen 0
 have g1 := kR.frozen 1
 go_wp2
 refine bodyPost_ret (results_cell_row rfl _ _ w.heap.size 26 #[.int .i64 p, .slice a M.length c] (0, 0) _ rfl (kR.b2 _ _) Tryz.underlying26 rfl (by kernel_rfl)) rfl ?_
 exact ⟨_, M, _, rfl, hp, by omega, (o2.setD (by omega) _ _).mono (by omega), (((unhide S2)).keep (Below.setD (Below.refl w.heap.size w2) (Nat.le_refl _) _ _) hlt).mono (by omega), (mm2).new (Below.setD (Below.refl w.heap.size w2) (Nat.le_refl _) _ _) (by omega)⟩
end Go.Proofs.YtkiljcbejmiioaaGreat
namespace Go.Proofs.YtkiljcbejmiioaaGreat
open Go.RowKit
attribute [local go_sem ↓] Go.wp_at_zero Go.wp_at_succ
theorem RdS.tail {w : World} {b o : Nat} {M : List (List Int)} (h : RdS w (some ⟨b, o, none⟩) M) (hl : 1 ≤ M.length) : RdS w (some ⟨b, o + 1, none⟩) M.tail := by
 have h1 := h.len
 refine ⟨by rw [List.length_tail]; omega, fun h0 => ⟨b, o + 1, rfl, fun i hi => ?_⟩⟩
 rw [List.length_tail] at hi
 obtain ⟨b', o', e, _, hc⟩ := h.at_ (by omega)
 injection e with e
 injection e with e1 e2
 subst e1
 subst e2
 have := hc (i + 1) (by omega)
 have hn : nthL M.tail i = nthL M (i + 1) := by
  rw [nthL_lt (by rw [List.length_tail]; omega), nthL_lt (by omega), List.getElem_tail]
 rw [hn, show o + 1 + i = o + (i + 1) by omega]
 exact this
theorem l23Draw_any (s T : Nat) (w : World) (h : Src w s T) (hT : T ≤ 1000) : Calls Tryz.prog 21 #[.pointer (some ⟨s, 0, none⟩)] w (DesDS w s (T + 5000) 300) := by
 have hlt := h.lt
 obtain ⟨W0, hW0⟩ : ∃ z, z = w.alloc (.cells #[.int .i64 0, .slice none 0 0] 26) := ⟨_, rfl⟩
 have b0 : Below w.heap.size w W0 := by rw [hW0]; exact (Below.refl _ _).alloc (Nat.le_refl _) _
 have k0 : Blk W0 w.heap.size 26 #[.int .i64 0, .slice none 0 0] := by rw [hW0]; exact Blk.new _ _ _ rfl
 have z0 : w.heap.size < W0.heap.size := k0.lt
 have m0 : Mk w W0 s (s + 1) := Mk.alloc b0 (by omega)
 have H1 := hide (pick_any s T 4 W0 (h.below b0) (by omega))
 have HW := Lib.hid hW0
 clear hW0 h
 go_enter Tryz.func21, Tryz.ntmps21
 go_upto_region 1 with fail
 rw [← HW.out]
 go_wp2_with fail
 refine (unhide H1).mono ?_
 rintro e w1 ⟨x, rfl, hx, _, s1, m1⟩
 have mm1 := m0.trans m1
 have z1 := m1.size
 have k1 := k0.kp (m1.kp (.inr (by omega)) z0)
 have S1 := hide s1
 have hx4 : x < 4 := by omega
 clear m1 H1 s1 hx
 by_cases h0 : x = 0
 · have x0 : ((x : Int) == 0) = true := by rw [beq_iff_eq]; omega
   clear hx4
   go_wp2_with fail
   refine (l11Make_any w1).mono ?_
   rintro e w2 ⟨p, M, v2, rfl, ⟨rfl, hMl, hR⟩, o2, b2⟩
   obtain ⟨a, c, rfl, _⟩ := o2.form
   have z2 := b2.size
   obtain ⟨W3, hW3⟩ : ∃ z, z = w2.alloc (.cells #[.int .i64 7, .slice a M.length c] 26) := ⟨_, rfl⟩
   have b3 : Below w2.heap.size w2 W3 := by rw [hW3]; exact (Below.refl _ _).alloc (Nat.le_refl _) _
   have d3 : Blk W3 w2.heap.size 26 #[.int .i64 7, .slice a M.length c] := by rw [hW3]; exact Blk.new _ _ _ rfl
   have b13 := b2.trans (b3.mono z2)
   have k3 := k1.below b13 (by omega)
   have o3 := o2.below b3 (Nat.le_refl _)
   have y3 := d3.lt
   have H4 := hide (l04DrawPerm_any s (T + 2) 7 W3 ((unhide S1).below b13) (by omega) (by omega) (by omega))
   have mm3 := mm1.new (b13.mono (by omega)) (by omega)
   have HR := hide hR
   have HW3 := Lib.hid hW3
   clear hW3 o2 hR
   go_upto_region 4 with fail
   rw [← HW3.out]
   go_wp2_with fail
   refine (unhide H4).mono ?_
   rintro e w4 ⟨v4, P, rfl, hPl, o4, s4, m4⟩
   obtain ⟨a4, c4, rfl, r4, _⟩ := o4.form
   have z4 := m4.size
   have d4 := d3.kp (m4.kp (.inr (by omega)) y3)
   have k4 := k3.kp (m4.kp (.inr (by omega)) (by omega))
   have q4 := o3.mk m4 (by omega)
   have H5 := hide (l10Image_any w2.heap.size 7 a c M a4 c4 P w4 (d4.cell 0) (d4.cell 1) q4.rd r4 hPl (unhide HR) (by omega))
   have S4 := hide s4
   have mm4 := mm3.trans m4
   clear s4 m4 o4 r4 hPl d4 d3 o3 q4 H4 k3
   go_wp2_with fail
   refine (unhide H5).mono ?_
   rintro e w5 ⟨q, N, v5, rfl, ⟨rfl, hNl⟩, o5, b5⟩
   have HN := hide (show N.length ≤ 300 by omega)
   clear hNl
   obtain ⟨a5, c5, rfl, _⟩ := o5.form
   have z5 := b5.size
   have kR := k4.below b5 (by omega)
   have mm5 := mm4.new (b5.mono mm4.size) (by omega)
   have S5 := hide ((unhide S4).below b5)
   have f0 := kR.cell 0
   have f1 := kR.cell 1
   have g0 := kR.frozen 0
   have g1 := kR.frozen 1
   go_wp2
   refine bodyPost_ret (results_cell_row rfl _ _ w.heap.size 26 #[.int .i64 7, .slice a5 N.length c5] (0, 0) _ rfl (kR.b2 _ _) Tryz.underlying26 rfl (by kernel_rfl)) rfl ?_
   exact ⟨_, N, _, rfl, ⟨by omega, by omega⟩, unhide HN, (o5.setD (by omega) _ _).mono (by omega), (((unhide S5)).keep (Below.setD (Below.refl w.heap.size w5) (Nat.le_refl _) _ _) hlt).mono (by omega), (mm5).new (Below.setD (Below.refl w.heap.size w5) (Nat.le_refl _) _ _) (by omega)⟩
 by_cases h1 : x = 1
 · have x0 : ((x : Int) == 0) = false := by rw [beq_eq_false_iff_ne]; omega
   have x1 : ((x : Int) == 1) = true := by rw [beq_iff_eq]; omega
   clear hx4
   have H2 := hide (l10Bent_any s (T + 2) w1 (unhide S1) (by omega))
   go_wp2_with fail
   refine (unhide H2).mono ?_
   rintro e w2 ⟨p, M, v2, rfl, hp, hMl, o2, s2, m2⟩
   obtain ⟨a2, c2, rfl, _⟩ := o2.form
   have mm2 := mm1.trans m2
   have z2 := m2.size
   have kR := k1.kp (m2.kp (.inr (by omega)) (by omega))
   have S2 := hide s2
   clear s2 H2
   have f0 := kR.cell 0
   have f1 := kR.cell 1
   have g0 := kR.frozen 0
   have g1 := kR.frozen 1
   go_wp2
   refine bodyPost_ret (results_cell_row rfl _ _ w.heap.size 26 #[.int .i64 p, .slice a2 M.length c2] (0, 0) _ rfl (kR.b2 _ _) Tryz.underlying26 rfl (by kernel_rfl)) rfl ?_
   exact ⟨_, M, _, rfl, hp, hMl, (o2.setD (by omega) _ _).mono (by omega), (((unhide S2)).keep (Below.setD (Below.refl w.heap.size w2) (Nat.le_refl _) _ _) hlt).mono (by omega), (mm2).new (Below.setD (Below.refl w.heap.size w2) (Nat.le_refl _) _ _) (by omega)⟩
 have x0 : ((x : Int) == 0) = false := by rw [beq_eq_false_iff_ne]; omega
 have x1 : ((x : Int) == 1) = false := by rw [beq_eq_false_iff_ne]; omega
 clear hx4
 have H2 := hide (pick_any s (T + 2) 5 w1 (unhide S1) (by omega))
 go_wp2_with fail
 refine (unhide H2).mono ?_
 rintro e w2 ⟨y, rfl, hy, _, s2, m2⟩
 have hy4 : y ≤ 4 := by omega
 obtain ⟨N, hN⟩ : ∃ N : Nat, N = 2 + y := ⟨_, rfl⟩
 have hN9 : N ≤ 6 := by omega
 have hNw : IntKind.i64.wrap (2 + (y : Int)) = (N : Int) := by rw [IntWalk.i64_in _ (by omega)]; omega
 have H3 := hide (l10DrawBlocks_any s (T + 4) N w2 (s2.mono (by omega)) (by omega))
 have mm2 := mm1.trans m2
 have z2 := m2.size
 have k2 := k1.kp (m2.kp (.inr (by omega)) (by omega))
 clear hN hy hy4 s2 m2 H2
 go_wp2_with fail
 refine (unhide H3).mono ?_
 rintro e w3 ⟨v3, M3, rfl, hMl3, o3, s3, m3⟩
 have mm3 := mm2.trans m3
 have z3 := m3.size
 have k3 := k2.kp (m3.kp (.inr (by omega)) (by omega))
 have S3 := hide s3
 have hpre : ∃ (M : List (List Int)) (a : Option Addr) (c : Nat), v3 = .slice a M.length c ∧ M.length ≤ 8 ∧ RdS w3 a M ∧ M.length ≤ c ∧ c ≤ 9223372036854775807 := by
  obtain ⟨a, c, rfl, r⟩ := o3.form
  refine ⟨M3, a, c, rfl, hMl3, r, ?_⟩
  rcases Nat.eq_zero_or_pos M3.length with h0 | h0
  · obtain ⟨_, _, hr, _⟩ := o3
    rcases hr.2 with ⟨e, _⟩ | ⟨g, cap, cur, e, _, _, h5, h6, _⟩
    · injection e with _ _ e; omega
    · injection e with _ _ e
      unfold maxLen at h6
      omega
  · obtain ⟨g, c', e, _, _, h1, h2⟩ := o3.at_ h0
    injection e with _ _ e
    subst e
    exact ⟨h1, by have := h2; first | omega | (unfold maxLen at this; omega) | exact this.1⟩
 have HPRE := hide hpre
 clear hpre o3 s3 m3 H3 hNw
 go_wp2_with fail
 go_loopw [5] (fun v wr => (∃ (M : List (List Int)) (a : Option Addr) (c : Nat), v = .slice a M.length c ∧ M.length ≤ 8 ∧ RdS w3 a M ∧ M.length ≤ c ∧ c ≤ 9223372036854775807) ∧ wr = w3) (fun v _ => lenV v)
 case atStart => exact ⟨unhide HPRE, rfl⟩
 case round =>
  clear HPRE
  obtain ⟨⟨M, a, c, rfl, hMl, r, hc, hc2⟩, rfl⟩ := hrel
  by_cases h6 : 6 < M.length
  · have h6i : (6 : Int) < (M.length : Int) := by omega
    obtain ⟨b, o, rfl, hb, _⟩ := r.at_ (by omega)
    have hR := hide (r.tail (by omega))
    have p1 : ¬ (M.length : Int) < 1 := by omega
    have p2 : (1 : Int) ≤ (M.length : Int) := by omega
    have p3 : ¬ c = 1 := by omega
    have p4 : ¬ M.length < 1 := by omega
    have p5 : 1 ≤ M.length := by omega
    have hct : M.tail.length = M.length - 1 := List.length_tail
    have HCT := Lib.hid hct
    clear r hct
    go_wp2
    go_roundw
    case rel => exact ⟨⟨M.tail, _, c - 1, by rw [HCT.out], by rw [HCT.out]; omega, unhide hR, by rw [HCT.out]; omega, by omega⟩, trivial⟩
    case measure => simp only [lenV]; omega
  · have h6i : ¬ (6 : Int) < (M.length : Int) := by omega
    have H4 := hide (l10SortG_any a c M wr r (by omega))
    clear r
    go_wp2_with fail
    refine (unhide H4).mono ?_
    rintro e w4 ⟨v4, M4, rfl, _, hl4, _, o4, b4⟩
    have HL := hide (show M4.length ≤ 300 by omega)
    clear hl4
    obtain ⟨a2, c2, rfl, _⟩ := o4.form
    have z4 := b4.size
    have kR := k3.below b4 (by omega)
    have mm4 := mm3.new (b4.mono mm3.size) (by omega)
    have S2 := hide ((unhide S3).below b4)
    have f0 := kR.cell 0
    have f1 := kR.cell 1
    have g0 := kR.frozen 0
    have g1 := kR.frozen 1
    go_wp2
    refine bodyPost_ret (results_cell_row rfl _ _ w.heap.size 26 #[.int .i64 N, .slice a2 M4.length c2] (0, 0) _ rfl (kR.b2 _ _) Tryz.underlying26 rfl (by kernel_rfl)) rfl ?_
    exact ⟨_, M4, _, rfl, ⟨by omega, by omega⟩, unhide HL, (o4.setD (by omega) _ _).mono (by omega), (((unhide S2)).keep (Below.setD (Below.refl w.heap.size w4) (Nat.le_refl _) _ _) hlt).mono (by omega), (mm4).new (Below.setD (Below.refl w.heap.size w4) (Nat.le_refl _) _ _) (by omega)⟩
def SmallD (w : World) (e : Ending) (w' : World) : Prop := ∃ (p : Int) (M : List (List Int)) (a : Option Addr) (c : Nat), e = .returned (.agg #[.int .i64 p, .slice a M.length c]) ∧ okD p M = true ∧ M.length ≤ 13 ∧ RdS w' a M ∧ Below w.heap.size w w'
theorem V8Small_any (ab : Option Addr) (cb : Nat) (bs : List Int) (w : World) (h : RdB w ab bs) :
    Calls Tryz.prog 5 #[.slice ab bs.length cb] w (SmallD w) := by
 obtain ⟨W0, hW0⟩ : ∃ W0, W0 = w.alloc (.cells #[.int .i64 0, .slice none 0 0] 26) := ⟨_, rfl⟩
 have b0 : Below w.heap.size w W0 := by rw [hW0]; exact (Below.refl _ _).alloc (Nat.le_refl _) _
 have k0 : Blk W0 w.heap.size 26 #[.int .i64 0, .slice none 0 0] := by rw [hW0]; exact Blk.new _ _ _ rfl
 have z0 : w.heap.size < W0.heap.size := k0.lt
 have HB := hide (h.below b0)
 have HW := Lib.hid hW0
 clear hW0 h
 go_enter Tryz.func5, Tryz.ntmps5
 go_upto_region 1 with fail
 rw [← HW.out]
 go_wp2_with fail
 refine (from_any ab cb bs W0 (unhide HB)).mono ?_
 rintro e w1 ⟨rfl, s1, b1, z1⟩
 have H2 := hide (l23Draw_any W0.heap.size 0 w1 s1 (by omega))
 clear s1
 go_wp2_with fail
 refine (unhide H2).mono ?_
 rintro e w2 ⟨p, M, v, rfl, hp, hMl, o2, _, m2⟩
 obtain ⟨a, c, rfl, r2⟩ := o2.form
 have z2 := m2.size
 have k2 := (k0.below b1 k0.lt).kp (m2.kp (.inl (by omega)) (by omega))
 have b02 := b0.trans ((b1.trans m2.1).mono (Nat.le_of_lt z0))
 obtain ⟨W3, hW3⟩ : ∃ z, z = w2.alloc (.cells #[.int .i64 p, .slice a M.length c] 26) := ⟨_, rfl⟩
 have b3 : Below w2.heap.size w2 W3 := by rw [hW3]; exact (Below.refl _ _).alloc (Nat.le_refl _) _
 have d3 : Blk W3 w2.heap.size 26 #[.int .i64 p, .slice a M.length c] := by rw [hW3]; exact Blk.new _ _ _ rfl
 have k3 := k2.below b3 (by omega)
 have o3 := o2.below b3 (Nat.le_refl _)
 have y3 := d3.lt
 have HV := hide (l10Ok_any w2.heap.size p a c M W3 (d3.cell 0) (d3.cell 1) (r2.below b3))
 have b03 := b02.trans (b3.mono (by omega))
 have HW3 := Lib.hid hW3
 clear hW3 o2 r2 k2 m2 H2
 go_upto_region 3 with fail
 rw [← HW3.out]
 by_cases hok : okD p M = true ∧ M.length ≤ 13
 · obtain ⟨hok1, hok2⟩ := hok
   rw [hok1] at HV
   have hl13 : ¬ (13 : Int) < (M.length : Int) := by omega
   go_wp2_with fail
   refine (unhide HV).mono ?_
   rintro e w3 ⟨rfl, q3⟩
   have bq := q3.below W3.heap.size
   have d4 := d3.below bq y3
   have k4 := k3.below bq (by omega)
   have o4 := o3.below bq (Nat.le_refl _)
   have b04 := b03.trans (bq.mono (by omega))
   have e0 := d4.cell 0
   have e1 := d4.cell 1
   have f0 := k4.cell 0
   have f1 := k4.cell 1
   have g0 := k4.frozen 0
   have g1 := k4.frozen 1
   have HOK := Lib.hid hok1
   clear hok1 d3 k3 o3 HV
   go_wp2
   refine bodyPost_ret (results_cell_row rfl _ _ w.heap.size 26 #[.int .i64 p, .slice a M.length c] (0, 0) _ rfl (k4.b2 _ _) Tryz.underlying26 rfl (by kernel_rfl)) rfl ?_
   exact ⟨p, M, a, c, rfl, HOK.out, hok2, (o4.setD (by omega) _ _).rd, Below.setD b04 (Nat.le_refl _) _ _⟩
 · have tail : ∀ (w3 : World), Qt W3 w3 → Hid (Below w.heap.size w w3 ∧ Blk w3 w.heap.size 26 #[.int .i64 0, .slice none 0 0] ∧ Blk w3 w2.heap.size 26 #[.int .i64 p, .slice a M.length c]) := fun w3 q => ⟨b03.trans ((q.below W3.heap.size).mono (by omega)), k3.below (q.below W3.heap.size) (by omega), d3.below (q.below W3.heap.size) y3⟩
   have HT := hide tail
   have hlit : okD 3 [[0, 1], [0, 2]] = true := by decide
   have HLIT := Lib.hid hlit
   cases hb : okD p M with
   | true =>
    rw [hb] at HV
    have hl13 : (13 : Int) < (M.length : Int) := by
     have : ¬ M.length ≤ 13 := fun h => hok ⟨hb, h⟩
     omega
    clear hok hb hlit tail d3 k3 o3
    go_wp2_with fail
    refine (unhide HV).mono ?_
    rintro e w3 ⟨rfl, q3⟩
    obtain ⟨b04, k4, d4⟩ := (unhide HT w3 q3).out
    have hz4 := b04.size
    have e0 := d4.cell 0
    have e1 := d4.cell 1
    obtain ⟨W5, hW5⟩ : ∃ z, z = ((w3.alloc (.cells #[.int .i64 0, .int .i64 1] 2)).alloc (.cells #[.int .i64 0, .int .i64 2] 2)).alloc (.cells #[.slice (some ⟨w3.heap.size, 0, none⟩) 2 2, .slice (some ⟨w3.heap.size + 1, 0, none⟩) 2 2] 28) := ⟨_, rfl⟩
    have b5 : Below w3.heap.size w3 W5 := by rw [hW5]; exact (((Below.refl _ _).alloc (Nat.le_refl _) _).alloc (by simp) _).alloc (by simp; omega) _
    have k5 := k4.below b5 k4.lt
    have q1 : Blk W5 w3.heap.size 2 #[.int .i64 0, .int .i64 1] := by rw [hW5]; exact ((Blk.new _ _ _ rfl).alloc _).alloc _
    have q2 : Blk W5 (w3.heap.size + 1) 2 #[.int .i64 0, .int .i64 2] := by rw [hW5]; exact (Blk.new _ _ _ (by simp)).alloc _
    have q3 : Blk W5 (w3.heap.size + 1 + 1) 28 #[.slice (some ⟨w3.heap.size, 0, none⟩) 2 2, .slice (some ⟨w3.heap.size + 1, 0, none⟩) 2 2] := by rw [hW5]; exact Blk.new _ _ _ (by simp)
    have lt4 := k4.lt
    have f0 := k5.cell 0
    have f1 := k5.cell 1
    have g0 := k5.frozen 0
    have g1 := k5.frozen 1
    rw [hW5] at f0 f1 g0 g1
    have HW5 := Lib.hid hW5
    clear hW5
    go_wp2
    rw [← HW5.out]
    refine bodyPost_ret (results_cell_row rfl _ _ w.heap.size 26 #[.int .i64 3, .slice (some ⟨w3.heap.size + 1 + 1, 0, none⟩) 2 2] (0, 0) _ rfl (k5.b2 _ _) Tryz.underlying26 rfl (by kernel_rfl)) rfl ?_
    have far : ∀ (g : Nat) (t : TypeId) (cs : Array Value) (u v : Value), g ≠ w.heap.size → Blk W5 g t cs → Blk ((W5.setCell ⟨w.heap.size, 0, none⟩ u).setCell ⟨w.heap.size, 1, none⟩ v) g t cs := fun g t cs u v hg hb => (hb.far (by show g ≠ w.heap.size; exact hg) u).far (by show g ≠ w.heap.size; exact hg) v
    have l1 := far _ _ _ (.int .i64 3) (.slice (some ⟨w3.heap.size + 1 + 1, 0, none⟩) 2 2) (by omega) q1
    have l2 := far _ _ _ (.int .i64 3) (.slice (some ⟨w3.heap.size + 1 + 1, 0, none⟩) 2 2) (by omega) q2
    have l3 := far _ _ _ (.int .i64 3) (.slice (some ⟨w3.heap.size + 1 + 1, 0, none⟩) 2 2) (by omega) q3
    exact ⟨3, [[0, 1], [0, 2]], _, _, rfl, HLIT.out, by decide, ⟨by decide, fun _ => ⟨_, 0, rfl, fun i hi => by
     rcases (show i = 0 ∨ i = 1 by simp at hi; omega) with rfl | rfl
     · exact ⟨_, 2, l3.cell 0, Rd.blk l1 [0, 1] rfl (by simp)⟩
     · exact ⟨_, 2, l3.cell 1, Rd.blk l2 [0, 2] rfl (by simp)⟩⟩⟩, Below.setD (b04.trans (b5.mono hz4)) (Nat.le_refl _) _ _⟩
   | false =>
    rw [hb] at HV
    clear hok hb hlit tail d3 k3 o3
    go_wp2_with fail
    refine (unhide HV).mono ?_
    rintro e w3 ⟨rfl, q3⟩
    obtain ⟨b04, k4, d4⟩ := (unhide HT w3 q3).out
    have hz4 := b04.size
    have e0 := d4.cell 0
    have e1 := d4.cell 1
    obtain ⟨W5, hW5⟩ : ∃ z, z = ((w3.alloc (.cells #[.int .i64 0, .int .i64 1] 2)).alloc (.cells #[.int .i64 0, .int .i64 2] 2)).alloc (.cells #[.slice (some ⟨w3.heap.size, 0, none⟩) 2 2, .slice (some ⟨w3.heap.size + 1, 0, none⟩) 2 2] 28) := ⟨_, rfl⟩
    have b5 : Below w3.heap.size w3 W5 := by rw [hW5]; exact (((Below.refl _ _).alloc (Nat.le_refl _) _).alloc (by simp) _).alloc (by simp; omega) _
    have k5 := k4.below b5 k4.lt
    have q1 : Blk W5 w3.heap.size 2 #[.int .i64 0, .int .i64 1] := by rw [hW5]; exact ((Blk.new _ _ _ rfl).alloc _).alloc _
    have q2 : Blk W5 (w3.heap.size + 1) 2 #[.int .i64 0, .int .i64 2] := by rw [hW5]; exact (Blk.new _ _ _ (by simp)).alloc _
    have q3 : Blk W5 (w3.heap.size + 1 + 1) 28 #[.slice (some ⟨w3.heap.size, 0, none⟩) 2 2, .slice (some ⟨w3.heap.size + 1, 0, none⟩) 2 2] := by rw [hW5]; exact Blk.new _ _ _ (by simp)
    have lt4 := k4.lt
    have f0 := k5.cell 0
    have f1 := k5.cell 1
    have g0 := k5.frozen 0
    have g1 := k5.frozen 1
    rw [hW5] at f0 f1 g0 g1
    have HW5 := Lib.hid hW5
    clear hW5
    go_wp2
    rw [← HW5.out]
    refine bodyPost_ret (results_cell_row rfl _ _ w.heap.size 26 #[.int .i64 3, .slice (some ⟨w3.heap.size + 1 + 1, 0, none⟩) 2 2] (0, 0) _ rfl (k5.b2 _ _) Tryz.underlying26 rfl (by kernel_rfl)) rfl ?_
    have far : ∀ (g : Nat) (t : TypeId) (cs : Array Value) (u v : Value), g ≠ w.heap.size → Blk W5 g t cs → Blk ((W5.setCell ⟨w.heap.size, 0, none⟩ u).setCell ⟨w.heap.size, 1, none⟩ v) g t cs := fun g t cs u v hg hb => (hb.far (by show g ≠ w.heap.size; exact hg) u).far (by show g ≠ w.heap.size; exact hg) v
    have l1 := far _ _ _ (.int .i64 3) (.slice (some ⟨w3.heap.size + 1 + 1, 0, none⟩) 2 2) (by omega) q1
    have l2 := far _ _ _ (.int .i64 3) (.slice (some ⟨w3.heap.size + 1 + 1, 0, none⟩) 2 2) (by omega) q2
    have l3 := far _ _ _ (.int .i64 3) (.slice (some ⟨w3.heap.size + 1 + 1, 0, none⟩) 2 2) (by omega) q3
    exact ⟨3, [[0, 1], [0, 2]], _, _, rfl, HLIT.out, by decide, ⟨by decide, fun _ => ⟨_, 0, rfl, fun i hi => by
     rcases (show i = 0 ∨ i = 1 by simp at hi; omega) with rfl | rfl
     · exact ⟨_, 2, l3.cell 0, Rd.blk l1 [0, 1] rfl (by simp)⟩
     · exact ⟨_, 2, l3.cell 1, Rd.blk l2 [0, 2] rfl (by simp)⟩⟩⟩, Below.setD (b04.trans (b5.mono hz4)) (Nat.le_refl _) _ _⟩
end Go.Proofs.YtkiljcbejmiioaaGreat
