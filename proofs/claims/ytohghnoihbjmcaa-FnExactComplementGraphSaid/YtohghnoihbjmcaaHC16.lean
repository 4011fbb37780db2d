/-
  Texts joined.
-/
import Derived.Test.YtohghnoihbjmcaaHC7
import Derived.Test.YtohghnoihbjmcaaHC11
import Derived.Test.YtohghnoihbjmcaaHC14
import Derived.Test.YtohghnoihbjmcaaHC15
set_option linter.unusedVariables false
set_option linter.unusedSimpArgs false
set_option maxRecDepth 100000
set_option maxHeartbeats 40000000
namespace Go.Proofs.Ytohghnoihbjmcaa
open Go.RowKit
attribute [local go_sem ↓] Go.wp_at_zero Go.wp_at_succ
theorem GG.inE {n : Nat} {xs : List Int} {es : List (Int × Int)} (h : GG n xs es) : InE n es := fun e he => by
 have h1 := h.lo e he
 have h2 := h.lt e he
 have h3 := h.hi e he
 omega
end Go.Proofs.Ytohghnoihbjmcaa
namespace Go.Proofs.Ytohghnoihbjmcaa
open Go.RowKit
attribute [local go_sem ↓] Go.wp_at_zero Go.wp_at_succ
def negTo (T : Nat → Nat → Bool) (a b : Nat) : Nat → Nat → Bool := fun i j => if i < a ∨ (i = a ∧ j < b) then !T i j else T i j
theorem negTo_zero (T : Nat → Nat → Bool) : negTo T 0 0 = T := by
 funext i j
 rw [negTo, if_neg (by omega)]
theorem negTo_next {T : Nat → Nat → Bool} {n a i j : Nat} (hj : j < n) : negTo T a n i j = negTo T (a + 1) 0 i j := by
 rw [negTo, negTo]
 by_cases h : i < a ∨ i = a
 · rw [if_pos (by omega), if_pos (by omega)]
 · rw [if_neg (by omega), if_neg (by omega)]
theorem negTo_all {T : Nat → Nat → Bool} {n i j : Nat} (hi : i < n) : negTo T n 0 i j = !T i j := by rw [negTo, if_pos (by omega)]
theorem negTo_at {T : Nat → Nat → Bool} {a b : Nat} : negTo T a b a b = T a b := by rw [negTo, if_neg (by omega)]
theorem negTo_step (T : Nat → Nat → Bool) (a b : Nat) : (fun i j => if i = a ∧ j = b then (!T a b) else negTo T a b i j) = negTo T a (b + 1) := by
 funext i j
 by_cases h : i = a ∧ j = b
 · rw [if_pos h, negTo, if_pos (by omega), h.1, h.2]
 · rw [if_neg h, negTo, negTo]
   by_cases h2 : i < a ∨ (i = a ∧ j < b)
   · rw [if_pos h2, if_pos (by omega)]
   · rw [if_neg h2, if_neg (by omega)]
def notT (T : Nat → Nat → Bool) : Nat → Nat → Bool := fun i j => !T i j
def cmgRes (xs : List Int) (es : List (Int × Int)) : List Int × List (Int × Int) × Int :=
 if okG xs es = true then (if (edgesT xs.length (notT (adjE es)) xs.length).length ≤ 512 then (xs, edgesT xs.length (notT (adjE es)) xs.length, 0) else ([], [], 5)) else ([], [], 1)
def RetG (w : World) (r : List Int × List (Int × Int) × Int) (e : Ending) (w' : World) : Prop := ∃ v u, e = .returned (.tuple #[.agg #[v, u], .int .i64 r.2.2]) ∧ OwnG2 w' w.heap.size v u r.1 r.2.1 ∧ Below w.heap.size w w'
theorem OwnG2.nil (w : World) (B : Nat) : OwnG2 w B (.slice none 0 0) (.slice none 0 0) [] [] := ⟨Own.nil _ _, OwnE.nil _ _⟩
theorem OwnG2.storeBelow {w : World} {B : Nat} {v u : Value} {xs : List Int} {es : List (Int × Int)} (h : OwnG2 w B v u xs es) {p : Addr} (hp : p.block < B) (x : Value) : OwnG2 (w.setCell p x) B v u xs es := ⟨h.1.storeBelow hp x, h.2.storeBelow hp x⟩
theorem OwnG2.mono {w : World} {B B' : Nat} {v u : Value} {xs : List Int} {es : List (Int × Int)} (h : OwnG2 w B v u xs es) (hB : B' ≤ B) : OwnG2 w B' v u xs es := ⟨h.1.mono hB, h.2.mono hB⟩
theorem specCG_any (a : Option Addr) (c : Nat) (xs : List Int) (ra : Option Addr) (rc : Nat) (es : List (Int × Int)) (w : World) (hx : Rd w a xs) (hes : RdE w ra es) :
    Calls Try.prog 16 #[.agg #[.slice a xs.length c, .slice ra es.length rc]] w (RetG w (cmgRes xs es)) := by
 have hxl := hx.len
 have hel := hes.len
 generalize hR : cmgRes xs es = r
 obtain ⟨w0, hw0⟩ : ∃ w0, w0 = (w.alloc (.cells #[.slice a xs.length c, .slice ra es.length rc] 30)).alloc (.cells #[.slice none 0 0, .slice none 0 0] 30) := ⟨_, rfl⟩
 have hb0 : Below w.heap.size w w0 := by rw [hw0]; exact ((Below.refl _ _).alloc (Nat.le_refl _) _).alloc (by simp) _
 have kA : Blk w0 w.heap.size 30 #[.slice a xs.length c, .slice ra es.length rc] := by rw [hw0]; exact (Blk.new _ _ _ rfl).alloc _
 have kR : Blk w0 (w.heap.size + 1) 30 #[.slice none 0 0, .slice none 0 0] := by rw [hw0]; exact Blk.new _ _ _ (by simp)
 have s0 : w0.heap.size = w.heap.size + 1 + 1 := by rw [hw0]; simp
 have BA := hide (show ∀ W, Below w0.heap.size w0 W → Blk W w.heap.size 30 #[.slice a xs.length c, .slice ra es.length rc] from fun W h => kA.below h kA.lt)
 have BR := hide (show ∀ W, Below w0.heap.size w0 W → Blk W (w.heap.size + 1) 30 #[.slice none 0 0, .slice none 0 0] from fun W h => kR.below h kR.lt)
 have HX := hide (hx.below hb0)
 have HES := hide (hes.below hb0)
 have f0 := kA.cell 0
 have f1 := kA.cell 1
 rw [hw0] at f0 f1
 have HW := Lib.hid hw0
 have hv := l21Ok_any a ra c rc xs es w0 (unhide HX) (unhide HES)
 cases hk : okG xs es with
 | false =>
  have HN := Lib.hid (show r = ([], [], 1) by rw [← hR, cmgRes, hk]; rfl)
  rw [hk] at hv
  have HV := hide hv
  clear hv hk hR hw0
  go_enter Try.func16, Try.ntmps16
  go_wp2_with fail
  rw [← HW.out]
  refine (unhide HV).mono ?_
  rintro e w1 ⟨rfl, b1⟩
  clear f0 f1
  have kr := unhide BR w1 (b1)
  have r0 := kr.cell 0
  have r1 := kr.cell 1
  have q0 := kr.frozen 0
  have q1 := kr.frozen 1
  go_wp2
  refine bodyPost_ret (results_cell_tmp_row rfl _ _ (w.heap.size + 1) 30 #[.slice none 0 0, .slice none 0 0] _ rfl ((kr.set_ 0 _).set_ 1 _) Try.underlying30 rfl (by kernel_rfl)) rfl ?_
  rw [HN.out]
  exact ⟨_, _, rfl, OwnG2.nil _ _, ((hb0.trans (Below.mono (b1) (by omega))).setCell (by show w.heap.size ≤ w.heap.size + 1; omega) _).setCell (by show w.heap.size ≤ w.heap.size + 1; omega) _⟩
 | true =>
  have hG := okG_iff.1 hk
  have hn64 := hG.n64
  have hm := hG.m512
  rw [hk] at hv
  have HV := hide hv
  obtain ⟨T, hT⟩ : ∃ T, T = adjE es := ⟨_, rfl⟩
  have htb := fun W (h : Below w0.heap.size w0 W) => l21Table_any a xs.length c ra rc es W (by omega) ((unhide HES).below h) hG.inE
  rw [← hT] at htb
  have HTB := hide htb
  obtain ⟨E, hE⟩ : ∃ E, E = edgesT xs.length (notT T) xs.length := ⟨_, rfl⟩
  have hR2 : r = if E.length ≤ 512 then (xs, E, 0) else ([], [], 5) := by rw [← hR, cmgRes, if_pos hk, hE, hT]
  have hElen : E.length ≤ 64 * 64 := by rw [hE]; exact Nat.le_trans (edgesT_len _ _ _) (Nat.mul_le_mul hn64 hn64)
  have HRR := Lib.hid hR2
  have HE := Lib.hid hE
  clear hv hk hR hw0 htb hE hR2 hG hT
  go_enter Try.func16, Try.ntmps16
  go_wp2_with fail
  rw [← HW.out]
  refine (unhide HV).mono ?_
  rintro e w1 ⟨rfl, b1⟩
  clear f0 f1
  have k1 := unhide BA w1 (b1)
  have f0 := k1.cell 0
  have f1 := k1.cell 1
  go_wp2_with fail
  refine (unhide HTB _ b1).mono ?_
  rintro e w2 ⟨tv, rfl, t2, b2⟩
  obtain ⟨ta, tc, rfl⟩ := t2.form
  have d2 := Below.chain b1 b2
  have z1 := b1.size
  have T2 := hide (show TabB w2 w1.heap.size (.slice ta xs.length tc) xs.length xs.length (negTo T 0 0) by rw [negTo_zero]; exact t2)
  clear t2
  go_wp2_with fail
  go_loopw [5] (fun iv wr => ∃ k : Nat, iv = .int .i64 k ∧ k ≤ xs.length ∧ Hid (TabB wr w1.heap.size (.slice ta xs.length tc) xs.length xs.length (negTo T k 0)) ∧ Below w0.heap.size w0 wr) (fun iv _ => xs.length - (intOf iv).toNat)
  case atStart => exact ⟨0, rfl, Nat.zero_le _, T2, d2⟩
  case round =>
   obtain ⟨k, rfl, hk, hs, hb⟩ := hrel
   rename World => wo
   by_cases hkn : k < xs.length
   · go_wp2_with fail
     go_loopw [6] (fun iv wr => ∃ j : Nat, iv = .int .i64 j ∧ j ≤ xs.length ∧ Hid (TabB wr w1.heap.size (.slice ta xs.length tc) xs.length xs.length (negTo T k j)) ∧ Below w0.heap.size w0 wr) (fun iv _ => xs.length - (intOf iv).toNat)
     case atStart => exact ⟨0, rfl, Nat.zero_le _, hs, hb⟩
     case round =>
      obtain ⟨j, rfl, hj, hs, hb⟩ := hrel
      have hsz := hb.size
      by_cases hjn : j < xs.length
      · obtain ⟨_, g, rfl, _, hg⟩ := hs.out.addr (by omega)
        obtain ⟨q, c1', c2', q1, hBq, hq, hgq, hput⟩ := hs.out.at_ hkn hjn
        rw [negTo_at] at c2'
        have hp := hput (!T k j)
        rw [negTo_step] at hp
        obtain ⟨tb, htb⟩ : ∃ tb, tb = T k j := ⟨_, rfl⟩
        rw [← htb] at c2' hp
        have HP := hide hp
        clear hput hp htb hs
        go_upto_region 10 with fail
        refine wp_region_noPanic ?_
        refine wp_region_until (S := (fun W => W.cell? ⟨g, k, none⟩ = some (.slice (some ⟨q, 0, none⟩) xs.length xs.length) ∧ W.cell? ⟨q, j, none⟩ = some (.bool tb))) 14 [(0, 0), (0, 1), (0, 2), (0, 3), (0, 4), (0, 5), (0, 6), (0, 7), (0, 8), (0, 9), (0, 10), (0, 11), (0, 12), (0, 13), (2, 14)] (by kernel_rfl) (by kernel_rfl) (by kernel_rfl) rfl (fun _ _ _ _ _ h => h) ?_ (fun hHeld => ?_)
        · exact ⟨c1', c2'⟩
        refine SeqU.take (by rfl) (v := ?hv1) (by rfl) ?hy1 ?hr1
        case hy1 =>
         intro w hSw
         try dsimp only at hSw
         go_simp
         try (with_reducible rfl)
        try simp only [Act.put, List.setIfInBounds_toArray, List.set_cons_zero, List.set_cons_succ]
        refine SeqU.take (by rfl) (v := ?hv2) (by rfl) ?hy2 ?hr2
        case hy2 =>
         intro w hSw
         try dsimp only at hSw
         go_simp
         try (with_reducible rfl)
        try simp only [Act.put, List.setIfInBounds_toArray, List.set_cons_zero, List.set_cons_succ]
        refine SeqU.take (by rfl) (v := ?hv3) (by rfl) ?hy3 ?hr3
        case hy3 =>
         intro w hSw
         try dsimp only at hSw
         go_simp
         try (with_reducible rfl)
        try simp only [Act.put, List.setIfInBounds_toArray, List.set_cons_zero, List.set_cons_succ]
        refine SeqU.take (by rfl) (v := ?hv4) (by rfl) ?hy4 ?hr4
        case hy4 =>
         intro w hSw
         try dsimp only at hSw
         go_simp
         try (with_reducible rfl)
        try simp only [Act.put, List.setIfInBounds_toArray, List.set_cons_zero, List.set_cons_succ]
        refine SeqU.take (by rfl) (v := ?hv5) (by rfl) ?hy5 ?hr5
        case hy5 =>
         intro w hSw
         try dsimp only at hSw
         go_simp
         try (with_reducible rfl)
        try simp only [Act.put, List.setIfInBounds_toArray, List.set_cons_zero, List.set_cons_succ]
        refine SeqU.take (by rfl) (v := ?hv6) (by rfl) ?hy6 ?hr6
        case hy6 =>
         intro w hSw
         try dsimp only at hSw
         go_simp
         try (with_reducible rfl)
        try simp only [Act.put, List.setIfInBounds_toArray, List.set_cons_zero, List.set_cons_succ]
        refine SeqU.take (by rfl) (v := ?hv7) (by rfl) ?hy7 ?hr7
        case hy7 =>
         intro w hSw
         try dsimp only at hSw
         go_simp
         try (with_reducible rfl)
        try simp only [Act.put, List.setIfInBounds_toArray, List.set_cons_zero, List.set_cons_succ]
        refine SeqU.take (by rfl) (v := ?hv8) (by rfl) ?hy8 ?hr8
        case hy8 =>
         intro w hSw
         try dsimp only at hSw
         go_simp
         try (with_reducible rfl)
        try simp only [Act.put, List.setIfInBounds_toArray, List.set_cons_zero, List.set_cons_succ]
        refine SeqU.take (by rfl) (v := ?hv9) (by rfl) ?hy9 ?hr9
        case hy9 =>
         intro w hSw
         try dsimp only at hSw
         go_simp
         try (with_reducible rfl)
        try simp only [Act.put, List.setIfInBounds_toArray, List.set_cons_zero, List.set_cons_succ]
        refine SeqU.take (by rfl) (v := ?hv10) (by rfl) ?hy10 ?hr10
        case hy10 =>
         intro w hSw
         try dsimp only at hSw
         go_simp
         try (with_reducible rfl)
        try simp only [Act.put, List.setIfInBounds_toArray, List.set_cons_zero, List.set_cons_succ]
        refine SeqU.take (by rfl) (v := ?hv11) (by rfl) ?hy11 ?hr11
        case hy11 =>
         intro w hSw
         try dsimp only at hSw
         go_simp
         try (with_reducible rfl)
        try simp only [Act.put, List.setIfInBounds_toArray, List.set_cons_zero, List.set_cons_succ]
        refine SeqU.take (by rfl) (v := ?hv12) (by rfl) ?hy12 ?hr12
        case hy12 =>
         intro w hSw
         try dsimp only at hSw
         go_simp
         try (with_reducible rfl)
        try simp only [Act.put, List.setIfInBounds_toArray, List.set_cons_zero, List.set_cons_succ]
        refine SeqU.take (by rfl) (v := ?hv13) (by rfl) ?hy13 ?hr13
        case hy13 =>
         intro w hSw
         try dsimp only at hSw
         go_simp
         try (with_reducible rfl)
        try simp only [Act.put, List.setIfInBounds_toArray, List.set_cons_zero, List.set_cons_succ]
        refine SeqU.take (by rfl) (v := ?hv14) (by rfl) ?hy14 ?hr14
        case hy14 =>
         intro w hSw
         try dsimp only at hSw
         go_simp
         try (with_reducible rfl)
        try simp only [Act.put, List.setIfInBounds_toArray, List.set_cons_zero, List.set_cons_succ]
        refine SeqU.last (by rfl) (fun K hK => ?_)
        go_simp
        skip
        refine hK.out _ _ ?_
        clear hK K
        try simp only [Act.put, List.setIfInBounds_toArray, List.set_cons_zero, List.set_cons_succ]
        refine SeqU.done (NoPanic.normal ?_)
        go_wp2_with fail
        go_roundw
        case rel => exact ⟨j + 1, by go_num, by omega, unhide HP, (hb.setCell (p := ⟨q, j, none⟩) (by show w0.heap.size ≤ q; omega) _).drew⟩
        case measure => simp only [intOf]; omega
      · have hjn : j = xs.length := by omega
        have HJ := Lib.hid hjn
        clear hjn
        go_wp2_with fail
        go_roundw
        case rel => exact ⟨k + 1, by go_num, by omega, by have h := hs.out; rw [HJ.out] at h; exact h.congr fun i j _ hj => negTo_next hj, hb⟩
        case measure => simp only [intOf]; omega
   · have hke : k = xs.length := by omega
     have HK := Lib.hid hke
     have hso := hs.out
     rw [HK.out] at hso
     have hso := TabB.congr (T' := notT T) hso fun i j hi _ => negTo_all hi
     have hof := l21Of_any a c xs (.slice ta xs.length tc) w1.heap.size (notT T) wo ((unhide HX).below hb) (by omega) hso
     rw [← HE.out] at hof
     have HOF := hide hof
     clear hof hso hs hke
     clear f0 f1
     have k1 := unhide BA wo (hb)
     have f0 := k1.cell 0
     have f1 := k1.cell 1
     go_wp2_with fail
     refine (unhide HOF).mono ?_
     rintro e w5 ⟨v5, u5, rfl, o5, b5⟩
     have d5 := hb.trans (b5.mono hb.size)
     have z0 := hb.size
     obtain ⟨a5, c5, ra5, rc5, rfl, rfl, _, _⟩ := o5.form
     obtain ⟨W6, hW6⟩ : ∃ z, z = w5.alloc (.cells #[.slice a5 xs.length c5, .slice ra5 E.length rc5] 30) := ⟨_, rfl⟩
     have b6 : Below w5.heap.size w5 W6 := by rw [hW6]; exact (Below.refl _ _).alloc (Nat.le_refl _) _
     have k6 : Blk W6 w5.heap.size 30 #[.slice a5 xs.length c5, .slice ra5 E.length rc5] := by rw [hW6]; exact Blk.new _ _ _ rfl
     have d6 := d5.trans (b6.mono d5.size)
     have o6 : OwnG2 W6 wo.heap.size (.slice a5 xs.length c5) (.slice ra5 E.length rc5) xs E := ⟨o5.1.below b6 (Nat.le_refl _), o5.2.below b6 (Nat.le_refl _)⟩
     have O6 := hide o6
     have HW6 := Lib.hid hW6
     have e0 := k6.cell 0
     have e1 := k6.cell 1
     clear hW6 o5 o6 f0 f1
     go_upto_region 12 with fail
     rw [← HW6.out]
     by_cases hE5 : E.length ≤ 512
     · have HN := Lib.hid (show r = (xs, E, 0) by rw [HRR.out, if_pos hE5])
       have hEd : decide ((512 : Int) < (E.length : Int)) = false := by rw [decide_eq_false_iff_not]; omega
       have kr := unhide BR W6 (d6)
       have r0 := kr.cell 0
       have r1 := kr.cell 1
       have q0 := kr.frozen 0
       have q1 := kr.frozen 1
       go_wp2
       refine bodyPost_ret (results_cell_tmp_row rfl _ _ (w.heap.size + 1) 30 #[.slice a5 xs.length c5, .slice ra5 E.length rc5] _ rfl ((kr.set_ 0 _).set_ 1 _) Try.underlying30 rfl (by kernel_rfl)) rfl ?_
       rw [HN.out]
       exact ⟨_, _, rfl, (((unhide O6).storeBelow (by show w.heap.size + 1 < _; omega) _).storeBelow (by show w.heap.size + 1 < _; omega) _).mono (by omega), ((hb0.trans (Below.mono (d6) (by omega))).setCell (by show w.heap.size ≤ w.heap.size + 1; omega) _).setCell (by show w.heap.size ≤ w.heap.size + 1; omega) _⟩
     · have HN := Lib.hid (show r = ([], [], 5) by rw [HRR.out, if_neg hE5])
       have hEd : decide ((512 : Int) < (E.length : Int)) = true := decide_eq_true (by omega)
       have kr := unhide BR W6 (d6)
       have r0 := kr.cell 0
       have r1 := kr.cell 1
       have q0 := kr.frozen 0
       have q1 := kr.frozen 1
       go_wp2
       refine bodyPost_ret (results_cell_tmp_row rfl _ _ (w.heap.size + 1) 30 #[.slice none 0 0, .slice none 0 0] _ rfl ((kr.set_ 0 _).set_ 1 _) Try.underlying30 rfl (by kernel_rfl)) rfl ?_
       rw [HN.out]
       exact ⟨_, _, rfl, OwnG2.nil _ _, ((hb0.trans (Below.mono (d6) (by omega))).setCell (by show w.heap.size ≤ w.heap.size + 1; omega) _).setCell (by show w.heap.size ≤ w.heap.size + 1; omega) _⟩
end Go.Proofs.Ytohghnoihbjmcaa
namespace Go.Proofs.Ytohghnoihbjmcaa
open Go.RowKit
attribute [local go_sem ↓] Go.wp_at_zero Go.wp_at_succ
theorem implCG_any (a : Option Addr) (c : Nat) (xs : List Int) (ra : Option Addr) (rc : Nat) (es : List (Int × Int)) (w : World) (hx : Rd w a xs) (hes : RdE w ra es) :
    Calls Try.prog 17 #[.agg #[.slice a xs.length c, .slice ra es.length rc]] w (RetG w (cmgRes xs es)) := by
 have hxl := hx.len
 have hel := hes.len
 generalize hR : cmgRes xs es = r
 obtain ⟨w0, hw0⟩ : ∃ w0, w0 = (w.alloc (.cells #[.slice a xs.length c, .slice ra es.length rc] 30)).alloc (.cells #[.slice none 0 0, .slice none 0 0] 30) := ⟨_, rfl⟩
 have hb0 : Below w.heap.size w w0 := by rw [hw0]; exact ((Below.refl _ _).alloc (Nat.le_refl _) _).alloc (by simp) _
 have kA : Blk w0 w.heap.size 30 #[.slice a xs.length c, .slice ra es.length rc] := by rw [hw0]; exact (Blk.new _ _ _ rfl).alloc _
 have kR : Blk w0 (w.heap.size + 1) 30 #[.slice none 0 0, .slice none 0 0] := by rw [hw0]; exact Blk.new _ _ _ (by simp)
 have s0 : w0.heap.size = w.heap.size + 1 + 1 := by rw [hw0]; simp
 have BA := hide (show ∀ W, Below w0.heap.size w0 W → Blk W w.heap.size 30 #[.slice a xs.length c, .slice ra es.length rc] from fun W h => kA.below h kA.lt)
 have BR := hide (show ∀ W, Below w0.heap.size w0 W → Blk W (w.heap.size + 1) 30 #[.slice none 0 0, .slice none 0 0] from fun W h => kR.below h kR.lt)
 have HX := hide (hx.below hb0)
 have HES := hide (hes.below hb0)
 have f0 := kA.cell 0
 have f1 := kA.cell 1
 rw [hw0] at f0 f1
 have HW := Lib.hid hw0
 have hv := implValidGraph_any a ra c rc xs es w0 (unhide HX) (unhide HES)
 cases hk : okG xs es with
 | false =>
  have HN := Lib.hid (show r = ([], [], 1) by rw [← hR, cmgRes, hk]; rfl)
  rw [hk] at hv
  have HV := hide hv
  clear hv hk hR hw0
  go_enter Try.func17, Try.ntmps17
  go_wp2_with fail
  rw [← HW.out]
  refine (unhide HV).mono ?_
  rintro e w1 ⟨rfl, b1⟩
  clear f0 f1
  have kr := unhide BR w1 (b1)
  have r0 := kr.cell 0
  have r1 := kr.cell 1
  have q0 := kr.frozen 0
  have q1 := kr.frozen 1
  go_wp2
  refine bodyPost_ret (results_cell_tmp_row rfl _ _ (w.heap.size + 1) 30 #[.slice none 0 0, .slice none 0 0] _ rfl ((kr.set_ 0 _).set_ 1 _) Try.underlying30 rfl (by kernel_rfl)) rfl ?_
  rw [HN.out]
  exact ⟨_, _, rfl, OwnG2.nil _ _, ((hb0.trans (Below.mono (b1) (by omega))).setCell (by show w.heap.size ≤ w.heap.size + 1; omega) _).setCell (by show w.heap.size ≤ w.heap.size + 1; omega) _⟩
 | true =>
  have hG := okG_iff.1 hk
  have hn64 := hG.n64
  have hm := hG.m512
  rw [hk] at hv
  have HV := hide hv
  obtain ⟨T, hT⟩ : ∃ T, T = notT (adjE es) := ⟨_, rfl⟩
  have hTd : ∀ i j : Nat, i < j → T i j = !decide (((i : Int), (j : Int)) ∈ es) := fun i j h => by rw [hT, notT, adjE_lt hG h]
  have hbs := fun gx gy W (h : Below w0.heap.size w0 W) => bsearchE_any ra rc es gx gy W ((unhide HES).below h) (by omega) hG.sorted
  have hcl := fun W (h : Below w0.heap.size w0 W) => cloneI_any a c xs W ((unhide HX).below h)
  have hsz0 := fun W => size_any a xs.length c W
  have HTD := hide hTd
  have HBS := hide hbs
  have HCL := hide hcl
  have HSZ := hide hsz0
  obtain ⟨E, hE⟩ : ∃ E, E = edgesT xs.length T xs.length := ⟨_, rfl⟩
  have hR2 : r = if E.length ≤ 512 then (xs, E, 0) else ([], [], 5) := by rw [← hR, cmgRes, if_pos hk, hE, hT]
  have hElen : E.length ≤ 64 * 64 := by rw [hE]; exact Nat.le_trans (edgesT_len _ _ _) (Nat.mul_le_mul hn64 hn64)
  have HRR := Lib.hid hR2
  have HE := Lib.hid hE
  clear hv hk hR hw0 hbs hE hR2 hG hT hTd hcl hsz0
  go_enter Try.func17, Try.ntmps17
  go_wp2_with fail
  rw [← HW.out]
  refine (unhide HV).mono ?_
  rintro e w1 ⟨rfl, b1⟩
  clear f0 f1
  have k1 := unhide BA w1 (b1)
  have f0 := k1.cell 0
  have f1 := k1.cell 1
  go_wp2_with fail
  refine (unhide HCL _ b1).mono ?_
  rintro e w2 ⟨v2, rfl, o2, b2⟩
  obtain ⟨a2, c2, rfl, _, _⟩ := o2.form
  have d2 := Below.chain b1 b2
  have z1 := b1.size
  obtain ⟨W3, hW3⟩ : ∃ z, z = w2.alloc (.cells #[.slice a2 xs.length c2, .slice none 0 0] 30) := ⟨_, rfl⟩
  have b3 : Below w2.heap.size w2 W3 := by rw [hW3]; exact (Below.refl _ _).alloc (Nat.le_refl _) _
  have k3 : Blk W3 w2.heap.size 30 #[.slice a2 xs.length c2, .slice none 0 0] := by rw [hW3]; exact Blk.new _ _ _ rfl
  have d3 := d2.trans (b3.mono d2.size)
  have z2 := d2.size
  have ST := hide (show OfSt W3 w0.heap.size w2.heap.size (.slice a2 xs.length c2) xs (edgesT xs.length T 0) from ⟨_, k3, (o2.below b3 (Nat.le_refl _)).mono z1, OwnE.nil _ _⟩)
  have HW3 := Lib.hid hW3
  clear hW3 o2 k3 f0 f1
  have k1 := unhide BA _ d3
  have f0 := k1.cell 0
  have f1 := k1.cell 1
  go_upto_region 4 with fail
  rw [← HW3.out]
  go_wp2_with fail
  refine (unhide HSZ _).mono ?_
  rintro e w4 ⟨rfl, rfl⟩
  go_wp2_with fail
  go_loopw [21] (fun iv wr => ∃ k : Nat, iv = .int .i64 k ∧ k ≤ xs.length ∧ Hid (OfSt wr w0.heap.size w2.heap.size (.slice a2 xs.length c2) xs (edgesT xs.length T k)) ∧ Below w0.heap.size w0 wr) (fun iv _ => xs.length - (intOf iv).toNat)
  case atStart => exact ⟨0, rfl, Nat.zero_le _, ST, d3⟩
  case round =>
   obtain ⟨k, rfl, hk, hs, hb⟩ := hrel
   rename World => wo
   by_cases hkn : k < xs.length
   · have ST2 := hide (show OfSt wo w0.heap.size w2.heap.size (.slice a2 xs.length c2) xs (edgesT xs.length T k ++ rowToT T k (k + 1)) by rw [rowToT_start, List.append_nil]; exact hs.out)
     clear hs f0 f1 k1
     go_wp2_with fail
     go_loopw [6] (fun iv wr => ∃ j : Nat, iv = .int .i64 j ∧ k + 1 ≤ j ∧ j ≤ xs.length ∧ Hid (OfSt wr w0.heap.size w2.heap.size (.slice a2 xs.length c2) xs (edgesT xs.length T k ++ rowToT T k j)) ∧ Below w0.heap.size w0 wr) (fun iv _ => xs.length - (intOf iv).toNat)
     case atStart => exact ⟨k + 1, by go_num, Nat.le_refl _, by omega, ST2, hb⟩
     case round =>
      obtain ⟨j, rfl, hkj, hj, hs, hb⟩ := hrel
      have hsz := hb.size
      have k1 := unhide BA _ hb
      have f0 := k1.cell 0
      have f1 := k1.cell 1
      go_wp2_with fail
      refine (unhide HSZ _).mono ?_
      rintro e w4 ⟨rfl, rfl⟩
      by_cases hjn : j < xs.length
      · obtain ⟨W5, hW5⟩ : ∃ z, z = wr.alloc (.cells #[.int .i64 (k : Int), .int .i64 (j : Int)] 58) := ⟨_, rfl⟩
        have b5 : Below wr.heap.size wr W5 := by rw [hW5]; exact (Below.refl _ _).alloc (Nat.le_refl _) _
        have k5 : Blk W5 wr.heap.size 58 #[.int .i64 (k : Int), .int .i64 (j : Int)] := by rw [hW5]; exact Blk.new _ _ _ rfl
        have d5 := hb.trans (b5.mono hsz)
        have HW5 := Lib.hid hW5
        have hTd := unhide HTD k j (by omega)
        have hbs := unhide HBS (k : Int) (j : Int) W5 d5
        obtain ⟨tb, htb⟩ : ∃ tb, tb = decide (((k : Int), (j : Int)) ∈ es) := ⟨_, rfl⟩
        rw [← htb] at hTd hbs
        have HB5 := hide hbs
        have k1 := unhide BA _ d5
        clear f0 f1
        have f0 := k1.cell 0
        have f1 := k1.cell 1
        have e0 := k5.cell 0
        have e1 := k5.cell 1
        clear hW5 hbs htb
        go_upto_region 11 with fail
        rw [← HW5.out]
        go_wp2_with fail
        refine (unhide HB5).mono ?_
        rintro e w6 ⟨⟨pp, rfl⟩, b6⟩
        have d6 := d5.trans (b6.mono d5.size)
        have b56 := Below.chain b5 b6
        have z6 := b56.size
        cases tb with
        | true =>
         have hst := rowToT_no (T := T) (a := k) (b := j) hTd
         have HST := Lib.hid hst
         clear hst hTd f0 f1 e0 e1
         go_wp2_with fail
         go_roundw
         case rel => exact ⟨j + 1, by go_num, by omega, by omega, by show OfSt _ _ _ _ _ _; rw [HST.out]; exact hs.out.below b56, d6⟩
         case measure => simp only [intOf]; omega
        | false =>
         have hst := rowToT_yes (T := T) (a := k) (b := j) (by omega) hTd
         obtain ⟨u, ku, ou, eu⟩ := hs.out.below b56
         obtain ⟨eu', hel⟩ : ∃ z, z = edgesT xs.length T k ++ rowToT T k j := ⟨_, rfl⟩
         have hst2 : edgesT xs.length T k ++ rowToT T k (j + 1) = eu' ++ [((k : Int), (j : Int))] := by rw [hst, ← List.append_assoc, ← hel]
         have hlen : eu'.length ≤ 1100000 := by
          have h1 := Nat.le_trans (edgesT_len xs.length T k) (Nat.mul_le_mul (show k ≤ 1000 by omega) (show xs.length ≤ 1000 by omega))
          have h2 := rowToT_len T k j
          rw [hel, List.length_append]
          omega
         rw [← hel] at eu
         obtain ⟨au, cu, rfl⟩ := eu.slice_val
         have HST := Lib.hid hst2
         have KU := hide ku
         have OU := hide ou
         have EU := hide eu
         have cc0 := ku.cell 0
         have cc1 := ku.cell 1
         have k6 := k5.below b6 k5.lt
         clear f0 f1 e0 e1
         have e0 := k6.cell 0
         have e1 := k6.cell 1
         clear hst hst2 hTd hs ku ou eu hel
         go_wp2_with (at_builtin; refine wpList_append_edge rfl (.tmp 46) (.tmp 48) rfl rfl ((unhide EU).below ((Below.refl _ _).alloc (Nat.le_refl _) _) (Nat.le_refl _)) ((k : Int), (j : Int)) w6.heap.size rfl ((Blk.new w6 58 #[.int .i64 (k : Int), .int .i64 (j : Int)] rfl).cell 0) ((Blk.new w6 58 #[.int .i64 (k : Int), .int .i64 (j : Int)] rfl).cell 1) (by simp; omega) (by omega) ?_; intro v7 w7 o7 g7 _; obtain ⟨a7, c7, rfl⟩ := o7.slice_val; have pu := OfSt.push (unhide KU) (unhide OU) (unhide EU) ((Below.refl _ _).alloc (Nat.le_refl _) _) g7 o7; have qc := pu.1; have qf := pu.2.1)
         go_roundw
         case rel =>
          refine ⟨j + 1, by go_num, by omega, by omega, ?_, ((d6.alloc (by omega) _).grown g7 (by simp; omega) (fun q hq => ((unhide EU).lt q hq).1)).setCell (by show w0.heap.size ≤ w2.heap.size; omega) _⟩
          show OfSt _ _ _ _ _ _
          rw [HST.out]
          have h := pu.2.2
          rw [show (eu' ++ [((k : Int), (j : Int))]).length = eu'.length + 1 by simp] at h
          exact h
         case measure => simp only [intOf]; omega
      · have hjn : j = xs.length := by omega
        have HJ := Lib.hid hjn
        clear hjn
        go_wp2_with fail
        go_roundw
        case rel => exact ⟨k + 1, by go_num, by omega, by show OfSt _ _ _ _ _ _; rw [edgesT_succ, ← rowToT_all]; have h := hs.out; rw [HJ.out] at h; exact h, hb⟩
        case measure => simp only [intOf]; omega
   · have hke : k = xs.length := by omega
     have HK := Lib.hid hke
     have hso := hs.out
     rw [HK.out, ← HE.out] at hso
     obtain ⟨u, ku, ou, eu⟩ := hso
     obtain ⟨au, cu, rfl⟩ := eu.slice_val
     have cc0 := ku.cell 0
     have cc1 := ku.cell 1
     have O6 := hide (show OwnG2 wo w0.heap.size (.slice a2 xs.length c2) (.slice au E.length cu) xs E from ⟨ou, eu⟩)
     clear hke hs ku ou eu f0 f1
     go_upto_region 15 with fail
     by_cases hE5 : E.length ≤ 512
     · have HN := Lib.hid (show r = (xs, E, 0) by rw [HRR.out, if_pos hE5])
       have hEd : decide ((512 : Int) < (E.length : Int)) = false := by rw [decide_eq_false_iff_not]; omega
       have kr := unhide BR wo (hb)
       have r0 := kr.cell 0
       have r1 := kr.cell 1
       have q0 := kr.frozen 0
       have q1 := kr.frozen 1
       go_wp2
       refine bodyPost_ret (results_cell_tmp_row rfl _ _ (w.heap.size + 1) 30 #[.slice a2 xs.length c2, .slice au E.length cu] _ rfl ((kr.set_ 0 _).set_ 1 _) Try.underlying30 rfl (by kernel_rfl)) rfl ?_
       rw [HN.out]
       exact ⟨_, _, rfl, (((unhide O6).storeBelow (by show w.heap.size + 1 < _; omega) _).storeBelow (by show w.heap.size + 1 < _; omega) _).mono (by omega), ((hb0.trans (Below.mono (hb) (by omega))).setCell (by show w.heap.size ≤ w.heap.size + 1; omega) _).setCell (by show w.heap.size ≤ w.heap.size + 1; omega) _⟩
     · have HN := Lib.hid (show r = ([], [], 5) by rw [HRR.out, if_neg hE5])
       have hEd : decide ((512 : Int) < (E.length : Int)) = true := decide_eq_true (by omega)
       have kr := unhide BR wo (hb)
       have r0 := kr.cell 0
       have r1 := kr.cell 1
       have q0 := kr.frozen 0
       have q1 := kr.frozen 1
       go_wp2
       refine bodyPost_ret (results_cell_tmp_row rfl _ _ (w.heap.size + 1) 30 #[.slice none 0 0, .slice none 0 0] _ rfl ((kr.set_ 0 _).set_ 1 _) Try.underlying30 rfl (by kernel_rfl)) rfl ?_
       rw [HN.out]
       exact ⟨_, _, rfl, OwnG2.nil _ _, ((hb0.trans (Below.mono (hb) (by omega))).setCell (by show w.heap.size ≤ w.heap.size + 1; omega) _).setCell (by show w.heap.size ≤ w.heap.size + 1; omega) _⟩
end Go.Proofs.Ytohghnoihbjmcaa
