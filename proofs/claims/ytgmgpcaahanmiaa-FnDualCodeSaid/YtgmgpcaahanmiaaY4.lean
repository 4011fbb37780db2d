/-
  Texts joined.
-/
import Derived.Test.YtgmgpcaahanmiaaY1
set_option linter.unusedVariables false
set_option linter.unusedSimpArgs false
set_option maxRecDepth 100000
set_option maxHeartbeats 40000000
namespace Go.Proofs.Ytgmgpcaahanmiaa
open Go.RowKit
theorem MakeField_no (q : Int) (w : World) (h : isField q = false) :
    Calls Try.prog 110 #[.int .i64 q] w fun e w' => ∃ v, e = .returned (.tuple #[.agg #[.int .i64 0, .int .i64 0, v], .int .i64 2]) ∧ Own w' w.heap.size v [] ∧ Below w.heap.size w w' := by
 have hno := isField_no h
 generalize hP : (ppI q).1 = P at hno
 have HP := Lib.hid hP
 clear hP h
 go_enter Try.func110, Try.ntmps110
 go_wp2_with fail
 obtain ⟨w0, hw0⟩ : ∃ w0, w0 = w.alloc (.cells #[.int .i64 0, .int .i64 0, .slice none 0 0] 34) := ⟨_, rfl⟩
 have k0 : Blk w0 w.heap.size 34 #[.int .i64 0, .int .i64 0, .slice none 0 0] := by rw [hw0]; exact Blk.new _ _ _ rfl
 have hb0 : Below w.heap.size w w0 := by rw [hw0]; exact (Below.refl _ _).alloc (Nat.le_refl _) _
 rw [← hw0]
 clear hw0
 refine (PrimePower_any q w0).mono ?_
 rintro e w1 ⟨rfl, b1⟩
 rw [HP.out]
 have k1 := k0.below b1 k0.lt
 have hb1 := hb0.trans (b1.mono hb0.size)
 have f0 : w1.cell? ⟨w.heap.size, 0, none⟩ = some (.int .i64 0) := k1.cell 0
 have f1 : w1.cell? ⟨w.heap.size, 1, none⟩ = some (.int .i64 0) := k1.cell 1
 have f2 : w1.cell? ⟨w.heap.size, 2, none⟩ = some (.slice none 0 0) := k1.cell 2
 have g0 := k1.frozen 0
 have g1 := k1.frozen 1
 have g2 := k1.frozen 2
 by_cases hp0 : P = 0
 · have hp1 : (P == 0) = true := by simpa using hp0
   clear hp0 hno
   go_wp2
   refine bodyPost_ret (results_cell_tmp_row rfl _ _ w.heap.size 34 #[.int .i64 0, .int .i64 0, .slice none 0 0] _ rfl (((k1.set_ 0 _).set_ 1 _).set_ 2 _) Try.underlying34 rfl (by kernel_rfl)) rfl ⟨_, rfl, Own.nil _ _, ?_⟩
   exact ((hb1.setCell (Nat.le_refl _) _).setCell (Nat.le_refl _) _).setCell (Nat.le_refl _) _
 · have hp1 : (P == 0) = false := by simpa using hp0
   have hq : 64 < q := by omega
   clear hp0 hno
   go_wp2
   refine bodyPost_ret (results_cell_tmp_row rfl _ _ w.heap.size 34 #[.int .i64 0, .int .i64 0, .slice none 0 0] _ rfl (((k1.set_ 0 _).set_ 1 _).set_ 2 _) Try.underlying34 rfl (by kernel_rfl)) rfl ⟨_, rfl, Own.nil _ _, ?_⟩
   exact ((hb1.setCell (Nat.le_refl _) _).setCell (Nat.le_refl _) _).setCell (Nat.le_refl _) _
theorem polyAt_in {p : Int} (hp : 2 ≤ p) (k n : Nat) : InR p (polyAt p k n) := InR.app (dig_range (by omega) k) hp
theorem MakeField_yes (q P : Int) (K : Nat) (w : World) (h2 : 2 ≤ q) (h64 : q ≤ 64) (hpp : ppI q = (P, (K : Int))) (hs : SizeOk q P K) :
    Calls Try.prog 110 #[.int .i64 q] w fun e w' => ∃ v, e = .returned (.tuple #[.agg #[.int .i64 P, .int .i64 K, v], .int .i64 0]) ∧ Own w' w.heap.size v (polyAt P K (leastN P K)) ∧ Below w.heap.size w w' := by
 obtain ⟨hN1, hN2, hN3⟩ := leastN_spec hs
 have hPl := hs.lo
 have hPh := hs.hi
 have hK1 := hs.k1
 have hK6 := hs.k6
 have hpow := Lib.hid hs.pow
 have HPP := Lib.hid hpp
 generalize leastN P K = N at hN1 hN2 hN3
 have HN2 := Lib.hid hN2
 have HN3 := hide hN3
 have hp1 : (P == 0) = false := by rw [beq_eq_false_iff_ne]; omega
 clear hpp hN2 hN3 hs
 go_enter Try.func110, Try.ntmps110
 go_wp2_with fail
 obtain ⟨w0, hw0⟩ : ∃ w0, w0 = w.alloc (.cells #[.int .i64 0, .int .i64 0, .slice none 0 0] 34) := ⟨_, rfl⟩
 have k0 : Blk w0 w.heap.size 34 #[.int .i64 0, .int .i64 0, .slice none 0 0] := by rw [hw0]; exact Blk.new _ _ _ rfl
 have hb0 : Below w.heap.size w w0 := by rw [hw0]; exact (Below.refl _ _).alloc (Nat.le_refl _) _
 rw [← hw0]
 clear hw0
 refine (PrimePower_any q w0).mono ?_
 rintro e w1 ⟨rfl, b1⟩
 rw [HPP.out]
 have k1 := k0.below b1 k0.lt
 have hb1 := hb0.trans (b1.mono hb0.size)
 clear k0 b1 hb0
 go_wp2_with fail
 go_loopw [6] (fun nv wr => ∃ n : Nat, nv = .int .i64 n ∧ n ≤ N ∧ Blk wr w.heap.size 34 #[.int .i64 0, .int .i64 0, .slice none 0 0] ∧ Below w.heap.size w wr) (fun nv _ => N - (intOf nv).toNat)
 case atStart => exact ⟨0, rfl, Nat.zero_le _, k1, hb1⟩
 case round =>
  obtain ⟨n, rfl, hnN, kr, hb⟩ := hrel
  have klt := kr.lt
  go_wp2_with fail
  refine (digitsOf_any n P K _ (by omega) (by omega) (by omega) (by omega) (by omega)).mono ?_
  rintro e w2 ⟨v2, rfl, o2, b2⟩
  have hsz2 := b2.size
  go_wp2_with (at_builtin; refine wpList_append_ints rfl (.tmp 22) (.tmp 23) rfl _ v2 (dig n P K) [1] rfl (o2.alloc _) _ 1 1 rfl rfl (Rd.lit1 w2 _) (by rw [dig_len]; simp; omega) (by simp; omega) ?_; intro v3 w3 o3 g3 _)
  have b3 : Below wr.heap.size w2 w3 := Below.step ((Below.refl _ _).alloc hsz2 _) g3 (o2.alloc _) (Nat.le_refl _) (by simp; omega)
  have b13 := b2.trans b3
  obtain ⟨a3, c3, rfl, r3, _⟩ := o3.form
  have hpl := polyAt_len P K n
  refine (irreducible_any a3 c3 (polyAt P K n) P w3 r3 (by omega) (by omega) (polyAt_in hPl K n) (by rw [hpl]; omega) (by rw [hpl, Nat.add_sub_cancel, hpow.out]; exact h64)).mono ?_
  rintro e w4 ⟨rfl, b4⟩
  have b14 := b13.trans (b4.mono b13.size)
  have hb4 := hb.trans (b14.mono hb.size)
  have k4 := kr.below b14 klt
  have HPL := Lib.hid hpl
  clear kr hpl o3 r3 g3 o2 b3 b13 b2 b4
  by_cases hnn : n = N
  · subst hnn
    rw [HN2.out]
    go_wp2_with fail
    refine (digitsOf_any n P K _ (by omega) (by omega) (by omega) (by omega) (by omega)).mono ?_
    rintro e w5 ⟨v5, rfl, o5, b5⟩
    have hsz5 := b5.size
    go_wp2_with (at_builtin; refine wpList_append_ints rfl (.tmp 35) (.tmp 36) rfl _ v5 (dig n P K) [1] rfl (o5.alloc _) _ 1 1 rfl rfl (Rd.lit1 w5 _) (by rw [dig_len]; simp; omega) (by simp; omega) ?_; intro v6 w6 o6 g6 _; (have b6 : Below w4.heap.size w5 w6 := Below.step ((Below.refl _ _).alloc hsz5 _) g6 (o5.alloc _) (Nat.le_refl _) (by simp; omega)); obtain ⟨a6, c6, rfl, _, _⟩ := o6.form; have b46 := b5.trans b6; have k6 := k4.below b46 k4.lt; have f0 : w6.cell? ⟨w.heap.size, 0, none⟩ = some (.int .i64 0) := k6.cell 0; have f1 : w6.cell? ⟨w.heap.size, 1, none⟩ = some (.int .i64 0) := k6.cell 1; have f2 : w6.cell? ⟨w.heap.size, 2, none⟩ = some (.slice none 0 0) := k6.cell 2; have g0 := k6.frozen 0; have g1 := k6.frozen 1; have g2 := k6.frozen 2)
    have hb6 := hb4.trans (b46.mono hb4.size)
    have hwl := k4.lt
    have hla : (dig n P K ++ [1]).length = (dig n P K).length + 1 := by simp
    rw [hla] at o6
    refine bodyPost_ret (results_cell_tmp_row rfl _ _ w.heap.size 34 #[.int .i64 P, .int .i64 K, .slice a6 ((dig n P K).length + 1) c6] _ rfl (((k6.set_ 0 _).set_ 1 _).set_ 2 _) Try.underlying34 rfl (by kernel_rfl)) rfl ⟨_, rfl, ?_, ?_⟩
    · exact (((o6.storeBelow (by show w.heap.size < _; omega) _).storeBelow (by show w.heap.size < _; omega) _).storeBelow (by show w.heap.size < _; omega) _).mono (by omega)
    · exact ((hb6.setCell (Nat.le_refl _) _).setCell (Nat.le_refl _) _).setCell (Nat.le_refl _) _
  · have hf := (unhide HN3) n (by omega)
    rw [hf]
    go_wp2
    go_roundw
    case rel => exact ⟨n + 1, by go_num, by omega, k4, hb4⟩
    case measure => simp only [intOf]; omega
theorem MakeField_any (q : Int) (w : World) :
    Calls Try.prog 110 #[.int .i64 q] w fun e w' => ∃ v, e = .returned (.tuple #[.agg #[.int .i64 (mkF q).1, .int .i64 (mkF q).2.1, v], .int .i64 (mkF q).2.2.2]) ∧ Own w' w.heap.size v (mkF q).2.2.1 ∧ Below w.heap.size w w' := by
 by_cases h : isField q = true
 · obtain ⟨h2, h64, he, k, hk, hs⟩ := isField_size h
   have hm : mkF q = ((split q).1, (k : Int), polyAt (split q).1 k (leastN (split q).1 k), 0) := by rw [mkF, if_pos h, hk, Int.toNat_natCast]
   rw [hm]
   exact MakeField_yes q _ k w h2 h64 (by rw [← he, ← hk]) hs
 · have hm : mkF q = (0, 0, [], 2) := by rw [mkF, if_neg h]
   rw [hm]
   exact MakeField_no q w (by simpa using h)
end Go.Proofs.Ytgmgpcaahanmiaa
namespace Go.Proofs.Ytgmgpcaahanmiaa
open Go.RowKit
theorem not_all_eq {xs ys : List Int} {k : Nat} (h : (nth xs k != nth ys k) = true) : decide (xs = ys) = false := by
 rw [decide_eq_false_iff_not]
 rintro rfl
 simp at h
theorem all_eq {xs ys : List Int} {k : Nat} (hl : xs.length = ys.length) (hk : ¬ k < xs.length) (h : ∀ j, j < k → nth xs j = nth ys j) : decide (xs = ys) = true := by
 rw [decide_eq_true_eq]
 exact eq_of_nth hl fun i hi => h i (by omega)
theorem eqInt64S_any (a b : Option Addr) (c d : Nat) (xs ys : List Int) (w : World) (hx : Rd w a xs) (hy : Rd w b ys) :
    Calls Try.prog 17 #[.slice a xs.length c, .slice b ys.length d] w fun e w' => e = .returned (.bool (decide (xs = ys))) ∧ Qt w w' := by
 have hxl := hx.len
 have hyl := hy.len
 by_cases hl : xs.length = ys.length
 · have HL := Lib.hid hl
   generalize hn : ys.length = n at hl hyl
   subst hl
   clear hn
   go_enter Try.func17, Try.ntmps17
   go_wp2
   go_loopw [5] (fun i wr => ∃ (k q : Nat), i = .int .i64 k ∧ k ≤ xs.length ∧ wr = w.drewN q ∧ Hid (∀ j, j < k → nth xs j = nth ys j)) (fun i _ => xs.length - (intOf i).toNat)
   case atStart => exact ⟨0, 0, rfl, by omega, rfl, fun j hj => by omega⟩
   case round =>
    obtain ⟨k, q, rfl, hk, rfl, hq⟩ := hrel
    by_cases hkl : k < xs.length
    · obtain ⟨b1, o1, rfl, _, hcx⟩ := hx.at_ (by omega)
      obtain ⟨b2, o2, rfl, _, hcy⟩ := hy.at_ (by rw [← HL.out]; omega)
      have hx1 := hcx k hkl
      have hy1 := hcy k (by rw [← HL.out]; omega)
      clear hcx hcy hx hy
      go_wp2_with fail
      go_quiet (fail)
      go_wp2
      · go_ret
        exact ⟨ret_bool (not_all_eq ‹_›).symm, Qt.two _ _ _⟩
      · go_roundw
        case rel =>
         have hne : (nth xs k != nth ys k) = false := by assumption
         refine ⟨k + 1, _, by go_num, by omega, rfl, fun j hj => ?_⟩
         rcases Nat.lt_succ_iff_lt_or_eq.1 hj with h | rfl
         · exact hq.out j h
         · simpa using hne
        case measure => simp [intOf]; omega
    · go_wp2
      go_ret
      exact ⟨ret_bool (all_eq HL.out hkl hq.out).symm, _, rfl⟩
 · have hne : ((xs.length : Int) != (ys.length : Int)) = true := by rw [bne_iff_ne]; omega
   have hd : decide (xs = ys) = false := by rw [decide_eq_false_iff_not]; rintro rfl; exact hl rfl
   have HD := Lib.hid hd
   clear hd
   go_enter Try.func17, Try.ntmps17
   go_wp2
   go_ret
   exact ⟨ret_bool HD.out.symm, 0, rfl⟩
theorem toInt64S_any (a : Option Addr) (c : Nat) (xs : List Int) (w : World) (hx : Rd w a xs) :
    Calls Try.prog 15 #[.slice a xs.length c] w fun e w' => ∃ v, e = .returned v ∧ Own w' w.heap.size v xs ∧ Below w.heap.size w w' := by
 have hxl := hx.len
 have hmk := fun W => run_make_row' (P := Try.prog) 22 2 (.int .i64 0) 8 Try.underlying22 Try.info_i64 rfl .i64 .i64 xs.length (by omega) (by omega) W
 go_enter Try.func15, Try.ntmps15
 go_wp2
 go_loopw [4] (fun i wr => ∃ (k : Nat), i = .int .i64 k ∧ k ≤ xs.length ∧ wr.rowIs w.heap.size 2 xs.length (fun j => if j < k then .int .i64 (nth xs j) else .int .i64 0) ∧ Below w.heap.size w wr) (fun i _ => xs.length - (intOf i).toNat)
 case atStart => exact ⟨0, rfl, by omega, (World.rowIs_made w _ _ _).congr (fun i _ => by simp), (Below.refl _ _).alloc (Nat.le_refl _) _⟩
 case round =>
  obtain ⟨k, rfl, hk, hrow, hb⟩ := hrel
  by_cases hkl : k < xs.length
  · obtain ⟨b1, o1, rfl, hb1, hcx⟩ := hx.at_ (by omega)
    have hx1 := (hb.cell (p := ⟨b1, o1 + k, none⟩) hb1).trans (hcx k hkl)
    have hc1 : ∃ u, wr.cell? ⟨w.heap.size, k, none⟩ = some u := ⟨_, hrow.cell hkl⟩
    obtain ⟨u, hc1⟩ := hc1
    have hf1 := hrow.frozen k
    have HR := Lib.hid hrow
    clear hcx hx hrow hmk
    go_wp2
    go_roundw
    case rel =>
     refine ⟨k + 1, by go_num, by omega, (HR.out.set k _).congr (fun i hi => ?_), hb.setCell (Nat.le_refl _) _⟩
     by_cases h1 : i = k
     · subst h1; simp
     · by_cases h2 : i < k
       · simp [h1, h2, show i < k + 1 by omega]
       · simp [h1, h2, show ¬ i < k + 1 by omega]
    case measure => simp [intOf]; omega
  · have HR := Lib.hid hrow
    clear hrow
    go_wp2
    go_ret
    exact ⟨_, rfl, Own.of_rowIs HR.out (Nat.le_refl _) rfl hxl (fun i hi => by simp [show i < k by omega]), hb⟩
theorem markInt64S_any (v : Value) (k : Int) (xs : List Int) (B : Nat) (w : World) (hx : Own w B v xs) (hk0 : 0 ≤ k) (hk1 : k ≤ 9000000000000000000) :
    Calls Try.prog 18 #[v, .int .i64 k] w fun e w' => e = .returned (.int .i64 (k + xs.length)) ∧ Own w' B v (marked k xs.length) ∧ w.grownBy w' v.ownBlock := by
 have hxl := hx.1
 rcases hx.slice_form with ⟨rfl, rfl⟩ | ⟨g, c, rfl, hB, hg⟩
 · go_enter Try.func18, Try.ntmps18
   go_wp2
   refine wp_loop_rounds 1 ?_
   rw [rounds_succ]
   go_wp2
   go_ret
   exact ⟨ret_int (by simp), Own.nil _ _, grown_refl _ _⟩
 · go_enter Try.func18, Try.ntmps18
   go_wp2
   go_loopw [1, 5] (fun kv i wr => ∃ (j : Nat), i = .int .i64 j ∧ kv = .int .i64 (k + j) ∧ j ≤ xs.length ∧ Own wr B (.slice (some ⟨g, 0, none⟩) xs.length c) (marked k j ++ xs.drop j) ∧ w.grownBy wr (some g)) (fun _ i _ => xs.length - (intOf i).toNat)
   case atStart => exact ⟨0, rfl, by simp, by omega, by simpa [marked] using hx, grown_refl _ _⟩
   case round =>
    obtain ⟨j, rfl, rfl, hj, ho, hgr⟩ := hrel
    by_cases hjl : j < xs.length
    · obtain ⟨u, hc1⟩ : ∃ u, wr.cell? ⟨g, j, none⟩ = some u := ⟨_, ho.cell (by simp [marked_len]; omega)⟩
      have hf1 := ho.frozen j
      have HO := Lib.hid ho
      clear ho hx
      go_wp2
      go_roundw
      case rel =>
       have hs := HO.out.set j (k + j)
       rw [marked_set k xs j hjl] at hs
       exact ⟨j + 1, by go_num, by go_num, by omega, hs.1, grown_trans_row hgr hs.2⟩
      case measure => simp [intOf]; omega
    · have HO := Lib.hid ho
      clear ho hx
      go_wp2
      go_ret
      obtain rfl : j = xs.length := by omega
      exact ⟨rfl, by simpa using HO.out, hgr⟩
theorem heldInt64S_any (a : Option Addr) (c : Nat) (k : Int) (xs : List Int) (w : World) (hx : Rd w a xs) (hk0 : 0 ≤ k) (hk1 : k ≤ 9000000000000000000) :
    Calls Try.prog 19 #[.slice a xs.length c, .int .i64 k] w fun e w' => e = .returned (.int .i64 (held k xs)) ∧ w = w' := by
 have hxl := hx.len
 go_enter Try.func19, Try.ntmps19
 go_wp2
 go_loop [1, 5] (fun kv i => ∃ (j : Nat), i = .int .i64 j ∧ kv = .int .i64 (k + j) ∧ j ≤ xs.length ∧ Hid (∀ i, i < j → nth xs i = k + (i : Int))) (fun _ i => xs.length - (intOf i).toNat)
 case atStart => exact ⟨0, rfl, by simp, by omega, fun j hj => by omega⟩
 case round =>
  obtain ⟨j, rfl, rfl, hj, hq⟩ := hrel
  by_cases hjl : j < xs.length
  · obtain ⟨b1, o1, rfl, _, hcx⟩ := hx.at_ (by omega)
    have hx1 := hcx j hjl
    clear hcx hx
    go_wp2
    · go_ret
      have hne : (nth xs j != k + (j : Int)) = true := by assumption
      exact ⟨ret_int (held_no hjl (by simpa using hne)).symm, rfl⟩
    · have hne : (nth xs j != k + (j : Int)) = false := by assumption
      go_round
      case rel =>
       refine ⟨j + 1, by go_num, by go_num, by omega, fun i hi => ?_⟩
       rcases Nat.lt_succ_iff_lt_or_eq.1 hi with h | rfl
       · exact hq.out i h
       · simpa using hne
      case measure => simp [intOf]; omega
  · go_wp2
    go_ret
    obtain rfl : j = xs.length := by omega
    exact ⟨ret_int (held_yes hq.out).symm, rfl⟩
theorem heldInt64S_marked (a : Option Addr) (c n : Nat) (k : Int) (w : World) (hx : Rd w a (marked k n)) (hk0 : 0 ≤ k) (hk1 : k ≤ 9000000000000000000) :
    Calls Try.prog 19 #[.slice a n c, .int .i64 k] w fun e w' => e = .returned (.int .i64 (k + n)) ∧ w = w' := by
 have h := heldInt64S_any a c k (marked k n) w hx hk0 hk1
 rw [marked_len, held_marked] at h
 exact h
def left (k : Int) (n : Nat) : Int := if (n : Int) ≤ k then k - n else -1
theorem left_yes {k : Int} {n : Nat} (h : (n : Int) ≤ k) : left k n = k - n := if_pos h
theorem left_no {k : Int} {n : Nat} (h : ¬ (n : Int) ≤ k) : left k n = -1 := if_neg h
theorem szInt64S_any (a : Option Addr) (n c : Nat) (k : Int) (w : World) (hn : n ≤ maxLen) (hk0 : 0 ≤ k) (hk1 : k ≤ 1048576) :
    Calls Try.prog 148 #[.slice a n c, .int .i64 k] w fun e w' => e = .returned (.int .i64 (left k n)) ∧ w = w' := by
 unfold maxLen at hn
 by_cases h : (n : Int) ≤ k
 · rw [left_yes h]
   go_enter Try.func148, Try.ntmps148
   go_wp2
   go_ret
   exact ⟨rfl, rfl⟩
 · rw [left_no h]
   go_enter Try.func148, Try.ntmps148
   go_wp2
   go_ret
   exact ⟨rfl, rfl⟩
end Go.Proofs.Ytgmgpcaahanmiaa
namespace Go.Proofs.Ytgmgpcaahanmiaa
open Go.RowKit
theorem quiet_add_qt {P : Program} {f : FuncId} {args : Array Value} {w : World} {v : Value}
    (h : Calls P f args w fun e w' => e = .returned v ∧ Qt w w') : Calls P f args w fun e w'' => e = .returned v ∧ ∃ m, w'' = w.drewN m := h
theorem not_all_eqL {xs ys : List (List Int)} {k : Nat} (h : nthL xs k ≠ nthL ys k) : decide (xs = ys) = false := by
 rw [decide_eq_false_iff_not]
 rintro rfl
 exact h rfl
theorem all_eqL {xs ys : List (List Int)} {k : Nat} (hl : xs.length = ys.length) (hk : ¬ k < xs.length) (h : ∀ j, j < k → nthL xs j = nthL ys j) : decide (xs = ys) = true := by
 rw [decide_eq_true_eq]
 exact eq_of_nthL hl fun i hi => h i (by omega)
theorem l00Same_any (a b : Option Addr) (c d : Nat) (xs ys : List Int) (w : World) (hx : Rd w a xs) (hy : Rd w b ys) :
    Calls Try.prog 85 #[.slice a xs.length c, .slice b ys.length d] w fun e w' => e = .returned (.bool (decide (xs = ys))) ∧ Qt w w' := by
 have hxl := hx.len
 have hyl := hy.len
 by_cases hl : xs.length = ys.length
 · have HL := Lib.hid hl
   generalize hn : ys.length = n at hl hyl
   subst hl
   clear hn
   go_enter Try.func85, Try.ntmps85
   go_wp2
   go_loopw [5] (fun i wr => ∃ (k q : Nat), i = .int .i64 k ∧ k ≤ xs.length ∧ wr = w.drewN q ∧ Hid (∀ j, j < k → nth xs j = nth ys j)) (fun i _ => xs.length - (intOf i).toNat)
   case atStart => exact ⟨0, 0, rfl, by omega, rfl, fun j hj => by omega⟩
   case round =>
    obtain ⟨k, q, rfl, hk, rfl, hq⟩ := hrel
    by_cases hkl : k < xs.length
    · obtain ⟨b1, o1, rfl, _, hcx⟩ := hx.at_ (by omega)
      obtain ⟨b2, o2, rfl, _, hcy⟩ := hy.at_ (by rw [← HL.out]; omega)
      have hx1 := hcx k hkl
      have hy1 := hcy k (by rw [← HL.out]; omega)
      clear hcx hcy hx hy
      go_wp2_with fail
      go_quiet (fail)
      go_wp2
      · go_ret
        exact ⟨ret_bool (not_all_eq ‹_›).symm, Qt.two _ _ _⟩
      · go_roundw
        case rel =>
         have hne : (nth xs k != nth ys k) = false := by assumption
         refine ⟨k + 1, _, by go_num, by omega, rfl, fun j hj => ?_⟩
         rcases Nat.lt_succ_iff_lt_or_eq.1 hj with h | rfl
         · exact hq.out j h
         · simpa using hne
        case measure => simp [intOf]; omega
    · go_wp2
      go_ret
      exact ⟨ret_bool (all_eq HL.out hkl hq.out).symm, _, rfl⟩
 · have hne : ((xs.length : Int) != (ys.length : Int)) = true := by rw [bne_iff_ne]; omega
   have hd : decide (xs = ys) = false := by rw [decide_eq_false_iff_not]; rintro rfl; exact hl rfl
   have HD := Lib.hid hd
   clear hd
   go_enter Try.func85, Try.ntmps85
   go_wp2
   go_ret
   exact ⟨ret_bool HD.out.symm, 0, rfl⟩
theorem slicesEqual_any (a b : Option Addr) (c d : Nat) (xs ys : List Int) (w : World) (hx : Rd w a xs) (hy : Rd w b ys) :
    Calls Try.prog 191 #[.slice a xs.length c, .slice b ys.length d] w fun e w' => e = .returned (.bool (decide (xs = ys))) ∧ Qt w w' := by
 have hxl := hx.len
 have hyl := hy.len
 by_cases hl : xs.length = ys.length
 · have HL := Lib.hid hl
   generalize hn : ys.length = n at hl hyl
   subst hl
   clear hn
   go_enter Try.func191, Try.ntmps191
   go_wp2
   go_loopw [13] (fun i wr => ∃ (k q : Nat), i = .int .i64 k ∧ k ≤ xs.length ∧ wr = w.drewN q ∧ Hid (∀ j, j < k → nth xs j = nth ys j)) (fun i _ => xs.length - (intOf i).toNat)
   case atStart => exact ⟨0, 0, rfl, by omega, rfl, fun j hj => by omega⟩
   case round =>
    obtain ⟨k, q, rfl, hk, rfl, hq⟩ := hrel
    by_cases hkl : k < xs.length
    · obtain ⟨b1, o1, rfl, _, hcx⟩ := hx.at_ (by omega)
      obtain ⟨b2, o2, rfl, _, hcy⟩ := hy.at_ (by rw [← HL.out]; omega)
      have hx1 := hcx k hkl
      have hy1 := hcy k (by rw [← HL.out]; omega)
      clear hcx hcy hx hy
      go_wp2_with fail
      go_quiet (fail)
      go_wp2
      · go_ret
        exact ⟨ret_bool (not_all_eq ‹_›).symm, Qt.two _ _ _⟩
      · go_roundw
        case rel =>
         have hne : (nth xs k != nth ys k) = false := by assumption
         refine ⟨k + 1, _, by go_num, by omega, rfl, fun j hj => ?_⟩
         rcases Nat.lt_succ_iff_lt_or_eq.1 hj with h | rfl
         · exact hq.out j h
         · simpa using hne
        case measure => simp [intOf]; omega
    · go_wp2
      go_ret
      exact ⟨ret_bool (all_eq HL.out hkl hq.out).symm, _, rfl⟩
 · have hne : ((xs.length : Int) != (ys.length : Int)) = true := by rw [bne_iff_ne]; omega
   have hd : decide (xs = ys) = false := by rw [decide_eq_false_iff_not]; rintro rfl; exact hl rfl
   have HD := Lib.hid hd
   clear hd
   go_enter Try.func191, Try.ntmps191
   go_wp2
   go_ret
   exact ⟨ret_bool HD.out.symm, 0, rfl⟩
theorem eqInt64SS_any (a b : Option Addr) (c d : Nat) (xs ys : List (List Int)) (w : World) (hx : RdS w a xs) (hy : RdS w b ys) :
    Calls Try.prog 157 #[.slice a xs.length c, .slice b ys.length d] w fun e w' => e = .returned (.bool (decide (xs = ys))) ∧ Qt w w' := by
 have hxl := hx.len
 have hyl := hy.len
 by_cases hl : xs.length = ys.length
 · have HL := Lib.hid hl
   generalize hn : ys.length = n at hl hyl
   subst hl
   clear hn
   go_enter Try.func157, Try.ntmps157
   go_wp2
   go_loopw [5] (fun i wr => ∃ (k : Nat), i = .int .i64 k ∧ k ≤ xs.length ∧ Hid (Qt w wr) ∧ Hid (∀ j, j < k → nthL xs j = nthL ys j)) (fun i _ => xs.length - (intOf i).toNat)
   case atStart => exact ⟨0, rfl, by omega, Qt.refl _, fun j hj => by omega⟩
   case round =>
    obtain ⟨k, rfl, hk, hQ, hq⟩ := hrel
    by_cases hkl : k < xs.length
    · obtain ⟨b1, o1, rfl, _, hcx⟩ := (hx.below (hQ.out.below _)).at_ (by omega)
      obtain ⟨b2, o2, rfl, _, hcy⟩ := (hy.below (hQ.out.below _)).at_ (by rw [← HL.out]; omega)
      obtain ⟨ai, ci, hx1, rx⟩ := hcx k hkl
      obtain ⟨aj, cj, hy1, ry⟩ := hcy k (by rw [← HL.out]; omega)
      clear hcx hcy hx hy
      have hc := fun n => eqInt64S_any ai aj ci cj (nthL xs k) (nthL ys k) (wr.drewN n) (rx.drewN n) (ry.drewN n)
      obtain ⟨r, hr⟩ : ∃ r, decide (nthL xs k = nthL ys k) = r := ⟨_, rfl⟩
      rw [hr] at hc
      have HR := Lib.hid hr
      have HC := hide hc
      clear hr hc
      go_wp2_with fail
      go_quiet ((go_at_call 17; exact Calls.quiet_of (unhide HC _)))
      cases r
      · go_wp2
        go_ret
        exact ⟨ret_bool (not_all_eqL (by simpa using HR.out)).symm, hQ.out.trans (Qt.one _ _)⟩
      · go_wp2
        go_roundw
        case rel =>
         refine ⟨k + 1, by go_num, by omega, hQ.out.trans (Qt.one _ _), fun j hj => ?_⟩
         rcases Nat.lt_succ_iff_lt_or_eq.1 hj with h | rfl
         · exact hq.out j h
         · simpa using HR.out
        case measure => simp [intOf]; omega
    · go_wp2
      go_ret
      exact ⟨ret_bool (all_eqL HL.out hkl hq.out).symm, hQ.out⟩
 · have hne : ((xs.length : Int) != (ys.length : Int)) = true := by rw [bne_iff_ne]; omega
   have hd : decide (xs = ys) = false := by rw [decide_eq_false_iff_not]; rintro rfl; exact hl rfl
   have HD := Lib.hid hd
   clear hd
   go_enter Try.func157, Try.ntmps157
   go_wp2
   go_ret
   exact ⟨ret_bool HD.out.symm, 0, rfl⟩
theorem l10Same_any (a b : Option Addr) (c d : Nat) (xs ys : List (List Int)) (w : World) (hx : RdS w a xs) (hy : RdS w b ys) :
    Calls Try.prog 126 #[.slice a xs.length c, .slice b ys.length d] w fun e w' => e = .returned (.bool (decide (xs = ys))) ∧ Qt w w' := by
 have hxl := hx.len
 have hyl := hy.len
 by_cases hl : xs.length = ys.length
 · have HL := Lib.hid hl
   generalize hn : ys.length = n at hl hyl
   subst hl
   clear hn
   go_enter Try.func126, Try.ntmps126
   go_wp2
   go_loopw [5] (fun i wr => ∃ (k : Nat), i = .int .i64 k ∧ k ≤ xs.length ∧ Hid (Qt w wr) ∧ Hid (∀ j, j < k → nthL xs j = nthL ys j)) (fun i _ => xs.length - (intOf i).toNat)
   case atStart => exact ⟨0, rfl, by omega, Qt.refl _, fun j hj => by omega⟩
   case round =>
    obtain ⟨k, rfl, hk, hQ, hq⟩ := hrel
    by_cases hkl : k < xs.length
    · obtain ⟨b1, o1, rfl, _, hcx⟩ := (hx.below (hQ.out.below _)).at_ (by omega)
      obtain ⟨b2, o2, rfl, _, hcy⟩ := (hy.below (hQ.out.below _)).at_ (by rw [← HL.out]; omega)
      obtain ⟨ai, ci, hx1, rx⟩ := hcx k hkl
      obtain ⟨aj, cj, hy1, ry⟩ := hcy k (by rw [← HL.out]; omega)
      clear hcx hcy hx hy
      have hc := fun n => l00Same_any ai aj ci cj (nthL xs k) (nthL ys k) (wr.drewN n) (rx.drewN n) (ry.drewN n)
      obtain ⟨r, hr⟩ : ∃ r, decide (nthL xs k = nthL ys k) = r := ⟨_, rfl⟩
      rw [hr] at hc
      have HR := Lib.hid hr
      have HC := hide hc
      clear hr hc
      go_wp2_with fail
      go_quiet ((go_at_call 85; exact Calls.quiet_of (unhide HC _)))
      cases r
      · go_wp2
        go_ret
        exact ⟨ret_bool (not_all_eqL (by simpa using HR.out)).symm, hQ.out.trans (Qt.one _ _)⟩
      · go_wp2
        go_roundw
        case rel =>
         refine ⟨k + 1, by go_num, by omega, hQ.out.trans (Qt.one _ _), fun j hj => ?_⟩
         rcases Nat.lt_succ_iff_lt_or_eq.1 hj with h | rfl
         · exact hq.out j h
         · simpa using HR.out
        case measure => simp [intOf]; omega
    · go_wp2
      go_ret
      exact ⟨ret_bool (all_eqL HL.out hkl hq.out).symm, hQ.out⟩
 · have hne : ((xs.length : Int) != (ys.length : Int)) = true := by rw [bne_iff_ne]; omega
   have hd : decide (xs = ys) = false := by rw [decide_eq_false_iff_not]; rintro rfl; exact hl rfl
   have HD := Lib.hid hd
   clear hd
   go_enter Try.func126, Try.ntmps126
   go_wp2
   go_ret
   exact ⟨ret_bool HD.out.symm, 0, rfl⟩
end Go.Proofs.Ytgmgpcaahanmiaa
namespace Go.Proofs.Ytgmgpcaahanmiaa
open Go.RowKit
def total (ls : List Nat) : Nat := ls.length + ls.sum
theorem sum_take_succ (ls : List Nat) {k : Nat} (hk : k < ls.length) : (ls.take (k + 1)).sum = (ls.take k).sum + ls.getD k 0 := by
 rw [List.take_add_one, List.getElem?_eq_getElem hk, List.sum_append]; simp [hk]
theorem sum_take_le (ls : List Nat) (k : Nat) : (ls.take k).sum ≤ ls.sum := by
 conv => rhs; rw [← List.take_append_drop k ls, List.sum_append]
 omega
theorem szInt64SS_any (a : Option Addr) (c : Nat) (ls : List Nat) (k : Int) (w : World) (hx : Lens w a ls) (hk0 : 0 ≤ k) (hk1 : k ≤ 1048576) :
    Calls Try.prog 149 #[.slice a ls.length c, .int .i64 k] w fun e w' => e = .returned (.int .i64 (left k (total ls))) ∧ w = w' := by
 obtain ⟨hm, hms, hx⟩ := hx
 unfold maxLen at hm hms
 by_cases h0 : (ls.length : Int) ≤ k
 · go_enter Try.func149, Try.ntmps149
   go_wp2
   go_loop [1, 5] (fun kv i => ∃ (j : Nat), i = .int .i64 j ∧ j ≤ ls.length ∧ ((ls.length + (ls.take j).sum : Nat) : Int) ≤ k ∧ kv = .int .i64 (k - ((ls.length + (ls.take j).sum : Nat) : Int))) (fun _ i => ls.length - (intOf i).toNat)
   case atStart => exact ⟨0, rfl, by omega, by simpa using h0, by simp⟩
   case round =>
    obtain ⟨j, rfl, hj, hle, rfl⟩ := hrel
    by_cases hjl : j < ls.length
    · obtain ⟨b1, o1, rfl, hc⟩ := hx (by omega)
      obtain ⟨ai, ci, hc1⟩ := hc j hjl
      have hmj := hms (ls.getD j 0) (by simp [hjl])
      have hst := sum_take_succ ls hjl
      have hsl := sum_take_le ls (j + 1)
      generalize ls.getD j 0 = m at hc1 hmj hst
      generalize hS : (ls.take j).sum = S at hle hst
      have HST := Lib.hid hst
      have HS := Lib.hid hS
      clear hx hc hst hS hms
      go_wp2_with fail
      refine (szInt64S_any ai m ci (k - ((ls.length + S : Nat) : Int)) w (by unfold maxLen; omega) (by omega) (by omega)).mono ?_
      rintro e w1 ⟨rfl, rfl⟩
      by_cases hb : (m : Int) ≤ k - ((ls.length + S : Nat) : Int)
      · rw [left_yes hb]
        go_wp2
        go_round
        case rel => exact ⟨j + 1, by go_num, by omega, by rw [HST.out]; omega, by rw [HST.out]; congr 1; omega⟩
        case measure => simp [intOf]; omega
      · rw [left_no hb]
        go_wp2
        go_ret
        exact ⟨ret_int (left_no (by have := HST.out; unfold total; omega)).symm, rfl⟩
    · clear hx hms
      go_wp2
      go_ret
      obtain rfl : j = ls.length := by omega
      rw [List.take_length] at hle
      refine ⟨ret_int ?_, rfl⟩
      rw [left_yes (by unfold total; exact hle)]
      unfold total
      simp
 · have hn : ¬ ((total ls : Nat) : Int) ≤ k := by unfold total; omega
   rw [left_no hn]
   clear hx hms
   go_enter Try.func149, Try.ntmps149
   go_wp2
   go_ret
   exact ⟨rfl, rfl⟩
theorem toInt64SS_any (a : Option Addr) (c : Nat) (xss : List (List Int)) (w : World) (hx : RdS w a xss) :
    Calls Try.prog 153 #[.slice a xss.length c] w fun e w' => ∃ v, e = .returned v ∧ OwnS w' w.heap.size v xss ∧ Below w.heap.size w w' := by
 have hxl := hx.len
 have hmk := fun W => run_make_row' (P := Try.prog) 35 22 (.slice none 0 0) 24 Try.underlying35 Try.info_row rfl .i64 .i64 xss.length (by omega) (by omega) W
 go_enter Try.func153, Try.ntmps153
 go_wp2
 go_loopw [4] (fun i wr => ∃ (k : Nat) (vs : List Value), i = .int .i64 k ∧ k ≤ xss.length ∧ wr.rowIs w.heap.size 22 xss.length (fun j => (vs[j]?).getD (.slice none 0 0)) ∧ Hid (Inner wr (w.heap.size + 1) vs (xss.take k)) ∧ Below w.heap.size w wr) (fun i _ => xss.length - (intOf i).toNat)
 case atStart => exact ⟨0, [], rfl, by omega, (World.rowIs_made w _ _ _).congr (fun i _ => by simp), show Inner _ _ _ _ by simpa using Inner.nil _ _, (Below.refl _ _).alloc (Nat.le_refl _) _⟩
 case round =>
  obtain ⟨k, vs, rfl, hk, hrow, hin, hb⟩ := hrel
  by_cases hkl : k < xss.length
  · obtain ⟨b1, o1, rfl, hb1, hcx⟩ := hx.at_ (by omega)
    obtain ⟨ai, ci, hx0, rx⟩ := hcx k hkl
    have hx1 := (hb.cell (p := ⟨b1, o1 + k, none⟩) hb1).trans hx0
    have rx1 := rx.below hb
    have hvl := hin.out.1
    rw [List.length_take] at hvl
    have HV := Lib.hid hvl
    have hlt := hrow.lt
    have HR := Lib.hid hrow
    clear hcx hx hrow hmk hx0 rx hvl
    go_wp2_with fail
    refine (toInt64S_any _ _ _ _ rx1).mono ?_
    rintro e w1 ⟨v1, rfl, o1', b1'⟩
    obtain ⟨a1, c1, rfl, _, _⟩ := o1'.form
    have hr1 : w1.rowIs w.heap.size 22 xss.length (fun j => (vs[j]?).getD (.slice none 0 0)) := HR.out.of_block (b1'.block _ hlt)
    obtain ⟨u, hc1⟩ : ∃ u, w1.cell? ⟨w.heap.size, k, none⟩ = some u := ⟨_, hr1.cell hkl⟩
    have hf1 := hr1.frozen k
    have HR1 := Lib.hid hr1
    have HI := Lib.hid (hin.out.push b1' (by omega) o1')
    clear hr1
    go_wp2
    go_roundw
    case rel =>
     have hvk : vs.length = k := by have := HV.out; omega
     refine ⟨k + 1, vs ++ [Value.slice a1 (nthL xss k).length c1], by go_num, by omega, (HR1.out.set k _).congr (fun i hi => ?_), ?_, (hb.trans (b1'.mono (by omega))).setCell (Nat.le_refl _) _⟩
     · by_cases h1 : i = k
       · subst h1; simp [← hvk]
       · by_cases h2 : i < k
         · simp [h1, List.getElem?_append_left (show i < vs.length by omega)]
         · simp [h1, List.getElem?_eq_none (show (vs ++ [Value.slice a1 (nthL xss k).length c1]).length ≤ i by rw [List.length_append]; show _ + 1 ≤ i; omega), List.getElem?_eq_none (show vs.length ≤ i by omega)]
     · rw [take_nthL hkl]
       exact HI.out.storeBelow (by show w.heap.size < w.heap.size + 1; omega) _
    case measure => simp [intOf]; omega
  · have hvl := hin.out.1
    obtain rfl : k = xss.length := by omega
    rw [List.length_take] at hvl
    have HV := Lib.hid hvl
    have HR := Lib.hid hrow
    clear hrow hvl
    go_wp2
    go_ret
    have hi := hin.out
    rw [List.take_length] at hi
    refine ⟨_, rfl, OwnS.of_rowIs HR.out (Nat.le_refl _) rfl hxl (fun i hi => ?_) (hi.mono (by omega)), hb⟩
    have := HV.out
    rw [List.getElem?_eq_getElem (by omega)]; rfl
end Go.Proofs.Ytgmgpcaahanmiaa
namespace Go.Proofs.Ytgmgpcaahanmiaa
open Go.RowKit
theorem OwnC.form {w : World} {B : Nat} {v u : Value} {xs : List Int} {xss : List (List Int)} (h : OwnC w B v u xs xss) :
    ∃ a c ra rc, v = .slice a xs.length c ∧ u = .slice ra xss.length rc ∧ Rd w a xs ∧ RdS w ra xss := by
 obtain ⟨M, _, h2, _, h4⟩ := h
 obtain ⟨a, c, e, r, _⟩ := h2.form
 obtain ⟨ra, rc, e', r'⟩ := h4.form
 exact ⟨a, c, ra, rc, e, e', r, r'⟩
theorem szField_any (p d : Int) (a : Option Addr) (n c : Nat) (k : Int) (w : World) (hn : n ≤ maxLen) (hk0 : 0 ≤ k) (hk1 : k ≤ 1048576) :
    Calls Try.prog 63 #[.agg #[.int .i64 p, .int .i64 d, .slice a n c], .int .i64 k] w fun e w' => e = .returned (.int .i64 (left k n)) ∧ Below w.heap.size w w' := by
 go_enter Try.func63, Try.ntmps63
 go_wp2_with fail
 refine (szInt64S_any a n c k _ hn hk0 hk1).mono ?_
 rintro e w1 ⟨rfl, rfl⟩
 by_cases h : (n : Int) ≤ k
 · rw [left_yes h]
   go_wp2
   go_ret
   exact ⟨ret_int (left_yes h).symm, (Below.refl _ _).alloc (Nat.le_refl _) _⟩
 · rw [left_no h]
   go_wp2
   go_ret
   exact ⟨ret_int (left_no (by omega)).symm, (Below.refl _ _).alloc (Nat.le_refl _) _⟩
theorem left_add_no {k : Int} {n m : Nat} (h : ¬ (n : Int) ≤ k) : left k (n + m) = -1 := left_no (by omega)
theorem left_add {k : Int} {n m : Nat} (_h : (n : Int) ≤ k) : left k (n + m) = left (k - n) m := by
 unfold left
 by_cases h2 : (m : Int) ≤ k - n
 · rw [if_pos (by omega), if_pos h2]; omega
 · rw [if_neg (by omega), if_neg h2]
theorem toField_any (p d : Int) (a : Option Addr) (c : Nat) (xs : List Int) (w : World) (hx : Rd w a xs) :
    Calls Try.prog 66 #[.agg #[.int .i64 p, .int .i64 d, .slice a xs.length c]] w fun e w' => ∃ v, e = .returned (.agg #[.int .i64 p, .int .i64 d, v]) ∧ Own w' w.heap.size v xs ∧ Below w.heap.size w w' := by
 go_enter Try.func66, Try.ntmps66
 go_wp2_with fail
 obtain ⟨wA, hwA⟩ : ∃ wA, wA = w.alloc (.cells #[.int .i64 p, .int .i64 d, .slice a xs.length c] 66) := ⟨_, rfl⟩
 obtain ⟨wB, hwB⟩ : ∃ wB, wB = wA.alloc (.cells #[.int .i64 0, .int .i64 0, .slice none 0 0] 34) := ⟨_, rfl⟩
 obtain ⟨wC, hwC⟩ : ∃ wC, wC = wB.alloc (.cells #[.int .i64 p, .int .i64 d, .slice none 0 0] 34) := ⟨_, rfl⟩
 have sA : wA.heap.size = w.heap.size + 1 := by rw [hwA]; simp
 have sB : wB.heap.size = w.heap.size + 1 + 1 := by rw [hwB]; simp [sA]
 have sC : wC.heap.size = w.heap.size + 1 + 1 + 1 := by rw [hwC]; simp [sB]
 have kB : Blk wC (w.heap.size + 1) 34 #[.int .i64 0, .int .i64 0, .slice none 0 0] := by rw [hwC, hwB]; exact (Blk.new _ _ _ sA.symm).alloc _
 have kC : Blk wC (w.heap.size + 1 + 1) 34 #[.int .i64 p, .int .i64 d, .slice none 0 0] := by rw [hwC]; exact Blk.new _ _ _ sB.symm
 have hb0 : Below w.heap.size w wC := by rw [hwC, hwB, hwA]; exact (((Below.refl _ _).alloc (Nat.le_refl _) _).alloc (by simp) _).alloc (by simp; omega) _
 rw [← hwA, ← hwB, ← hwC]
 refine (toInt64S_any a c xs wC (hx.below hb0)).mono ?_
 rintro e w1 ⟨v1, rfl, o1, b1⟩
 obtain ⟨a1, c1, rfl, _, _⟩ := o1.form
 have kB1 := kB.below b1 (by omega)
 have kC1 := kC.below b1 (by omega)
 have f0 : w1.cell? ⟨w.heap.size + 1 + 1, 0, none⟩ = some (.int .i64 p) := kC1.cell 0
 have f1 : w1.cell? ⟨w.heap.size + 1 + 1, 1, none⟩ = some (.int .i64 d) := kC1.cell 1
 have f2 : w1.cell? ⟨w.heap.size + 1 + 1, 2, none⟩ = some (.slice none 0 0) := kC1.cell 2
 have f3 := kC1.frozen 2
 have g0 : w1.cell? ⟨w.heap.size + 1, 0, none⟩ = some (.int .i64 0) := kB1.cell 0
 have g1 : w1.cell? ⟨w.heap.size + 1, 1, none⟩ = some (.int .i64 0) := kB1.cell 1
 have g2 : w1.cell? ⟨w.heap.size + 1, 2, none⟩ = some (.slice none 0 0) := kB1.cell 2
 have e0 := kB1.frozen 0
 have e1 := kB1.frozen 1
 have e2 := kB1.frozen 2
 have s1 := b1.size
 clear hwA hwB hwC hx
 go_wp2
 refine bodyPost_ret (results_cell_row rfl _ _ (w.heap.size + 1) 34 #[.int .i64 p, .int .i64 d, .slice a1 xs.length c1] (0, 0) _ rfl
  ((((kB1.far (p := ⟨w.heap.size + 1 + 1, 2, none⟩) (by show w.heap.size + 1 ≠ w.heap.size + 1 + 1; omega) _).set_ 0 _).set_ 1 _).set_ 2 _) Try.underlying34 rfl (by kernel_rfl)) rfl ⟨_, rfl, ?_, ?_⟩
 · exact ((((o1.storeBelow (by show w.heap.size + 1 + 1 < _; omega) _).storeBelow (by show w.heap.size + 1 < _; omega) _).storeBelow (by show w.heap.size + 1 < _; omega) _).storeBelow (by show w.heap.size + 1 < _; omega) _).mono (by omega)
 · exact (((((hb0.trans (b1.mono (by omega))).setCell (by show _ ≤ w.heap.size + 1 + 1; omega) _).setCell (by show _ ≤ w.heap.size + 1; omega) _).setCell (by show _ ≤ w.heap.size + 1; omega) _).setCell (by show _ ≤ w.heap.size + 1; omega) _)
end Go.Proofs.Ytgmgpcaahanmiaa
namespace Go.Proofs.Ytgmgpcaahanmiaa
open Go.RowKit
theorem equalFuncLists_any (a b : Option Addr) (c d : Nat) (xs ys : List (List Int)) (w : World) (hx : RdS w a xs) (hy : RdS w b ys) :
    Calls Try.prog 192 #[.slice a xs.length c, .slice b ys.length d, .func (.func 191) #[] #[]] w fun e w' => e = .returned (.bool (decide (xs = ys))) ∧ Qt w w' := by
 have hxl := hx.len
 have hyl := hy.len
 by_cases hl : xs.length = ys.length
 · have HL := Lib.hid hl
   generalize hn : ys.length = n at hl hyl
   subst hl
   clear hn
   go_enter Try.func192, Try.ntmps192
   go_wp2
   go_loopw [17] (fun i wr => ∃ (k : Nat), i = .int .i64 k ∧ k ≤ xs.length ∧ Hid (Qt w wr) ∧ Hid (∀ j, j < k → nthL xs j = nthL ys j)) (fun i _ => xs.length - (intOf i).toNat)
   case atStart => exact ⟨0, rfl, by omega, Qt.refl _, fun j hj => by omega⟩
   case round =>
    obtain ⟨k, rfl, hk, hQ, hq⟩ := hrel
    by_cases hkl : k < xs.length
    · obtain ⟨b1, o1, rfl, _, hcx⟩ := (hx.below (hQ.out.below _)).at_ (by omega)
      obtain ⟨b2, o2, rfl, _, hcy⟩ := (hy.below (hQ.out.below _)).at_ (by rw [← HL.out]; omega)
      obtain ⟨ai, ci, hx1, rx⟩ := hcx k hkl
      obtain ⟨aj, cj, hy1, ry⟩ := hcy k (by rw [← HL.out]; omega)
      clear hcx hcy hx hy
      have hc := slicesEqual_any ai aj ci cj (nthL xs k) (nthL ys k) wr rx ry
      obtain ⟨r, hr⟩ : ∃ r, decide (nthL xs k = nthL ys k) = r := ⟨_, rfl⟩
      rw [hr] at hc
      have HR := Lib.hid hr
      have HC := hide hc
      clear hr hc
      go_wp2_with fail
      refine (unhide HC).mono ?_
      rintro e w1 ⟨rfl, q1⟩
      cases r
      · go_wp2
        go_ret
        exact ⟨ret_bool (not_all_eqL (by simpa using HR.out)).symm, hQ.out.trans q1⟩
      · go_wp2
        go_roundw
        case rel =>
         refine ⟨k + 1, by go_num, by omega, hQ.out.trans q1, fun j hj => ?_⟩
         rcases Nat.lt_succ_iff_lt_or_eq.1 hj with h | rfl
         · exact hq.out j h
         · simpa using HR.out
        case measure => simp [intOf]; omega
    · go_wp2
      go_ret
      exact ⟨ret_bool (all_eqL HL.out hkl hq.out).symm, hQ.out⟩
 · have hne : ((xs.length : Int) != (ys.length : Int)) = true := by rw [bne_iff_ne]; omega
   have hd : decide (xs = ys) = false := by rw [decide_eq_false_iff_not]; rintro rfl; exact hl rfl
   have HD := Lib.hid hd
   clear hd
   go_enter Try.func192, Try.ntmps192
   go_wp2
   go_ret
   exact ⟨ret_bool HD.out.symm, 0, rfl⟩
theorem areSame_any (a b : Option Addr) (c d : Nat) (xs ys : List (List Int)) (w : World) (hx : RdS w a xs) (hy : RdS w b ys) :
    Calls Try.prog 120 #[.slice a xs.length c, .slice b ys.length d] w fun e w' => e = .returned (.bool (decide (xs = ys))) ∧ Qt w w' := by
 generalize hr : decide (xs = ys) = r
 have HR := Lib.hid hr
 clear hr
 go_enter Try.func120, Try.ntmps120
 go_wp2_with fail
 refine (equalFuncLists_any a b c d xs ys w hx hy).mono ?_
 rintro e w1 ⟨rfl, q1⟩
 rw [HR.out]
 go_wp2
 go_ret
 exact ⟨rfl, q1⟩
end Go.Proofs.Ytgmgpcaahanmiaa
namespace Go.Proofs.Ytgmgpcaahanmiaa
open Go.RowKit
def sameF (p d : Int) (xs : List Int) (p' d' : Int) (ys : List Int) : Bool := decide (p = p') && (decide (d = d') && decide (xs = ys))
theorem sameF_list (p d : Int) (xs ys : List Int) : sameF p d xs p d ys = decide (xs = ys) := by simp [sameF]
theorem sameF_no {p d p' d' : Int} {xs ys : List Int} (h : p ≠ p' ∨ d ≠ d') : sameF p d xs p' d' ys = false := by
 rcases h with h | h <;> simp [sameF, h]
theorem sameF_self (p d : Int) (xs : List Int) : sameF p d xs p d xs = true := by simp [sameF]
def sameC (p d : Int) (xs : List Int) (xss : List (List Int)) (p' d' : Int) (ys : List Int) (yss : List (List Int)) : Bool := sameF p d xs p' d' ys && decide (xss = yss)
theorem sameC_self (p d : Int) (xs : List Int) (xss : List (List Int)) : sameC p d xs xss p d xs xss = true := by simp [sameC, sameF_self]
theorem eqField_any (p d p' d' : Int) (a b : Option Addr) (c c' : Nat) (xs ys : List Int) (w : World) (hx : Rd w a xs) (hy : Rd w b ys) :
    Calls Try.prog 69 #[.agg #[.int .i64 p, .int .i64 d, .slice a xs.length c], .agg #[.int .i64 p', .int .i64 d', .slice b ys.length c']] w fun e w' => e = .returned (.bool (sameF p d xs p' d' ys)) ∧ Below w.heap.size w w' := by
 have hb0 := ((Below.refl w.heap.size w).alloc (Nat.le_refl _) (.cells #[.int .i64 p, .int .i64 d, .slice a xs.length c] 34)).alloc (by simp) (.cells #[.int .i64 p', .int .i64 d', .slice b ys.length c'] 34)
 by_cases hp : p = p'
 · subst hp
   by_cases hd : d = d'
   · subst hd
     go_enter Try.func69, Try.ntmps69
     go_wp2_with fail
     refine (eqInt64S_any a b c c' xs ys _ (hx.below hb0) (hy.below hb0)).mono ?_
     rintro e w1 ⟨rfl, q1⟩
     have hb1 := hb0.trans (q1.below _)
     generalize hr : decide (xs = ys) = r
     have HR := Lib.hid hr
     clear hr
     cases r
     · go_wp2
       go_ret
       exact ⟨ret_bool (by rw [sameF_list]; exact HR.out.symm), hb1⟩
     · go_wp2
       go_ret
       exact ⟨ret_bool (by rw [sameF_list]; exact HR.out.symm), hb1⟩
   · have h1 : (d != d') = true := by simpa using hd
     have h2 : (d == d') = false := by simpa using hd
     have HD := Lib.hid hd
     clear hd
     go_enter Try.func69, Try.ntmps69
     go_wp2
     go_ret
     exact ⟨ret_bool (sameF_no (.inr HD.out)).symm, hb0⟩
 · have h1 : (p != p') = true := by simpa using hp
   have h2 : (p == p') = false := by simpa using hp
   have HD := Lib.hid hp
   clear hp
   go_enter Try.func69, Try.ntmps69
   go_wp2
   go_ret
   exact ⟨ret_bool (sameF_no (.inl HD.out)).symm, hb0⟩
theorem specSameField_any (p d p' d' : Int) (a b : Option Addr) (c c' : Nat) (xs ys : List Int) (w : World) (hx : Rd w a xs) (hy : Rd w b ys) :
    Calls Try.prog 125 #[.agg #[.int .i64 p, .int .i64 d, .slice a xs.length c], .agg #[.int .i64 p', .int .i64 d', .slice b ys.length c']] w fun e w' => e = .returned (.bool (sameF p d xs p' d' ys)) ∧ Below w.heap.size w w' := by
 have hb0 := ((Below.refl w.heap.size w).alloc (Nat.le_refl _) (.cells #[.int .i64 p, .int .i64 d, .slice a xs.length c] 34)).alloc (by simp) (.cells #[.int .i64 p', .int .i64 d', .slice b ys.length c'] 34)
 by_cases hp : p = p'
 · subst hp
   by_cases hd : d = d'
   · subst hd
     go_enter Try.func125, Try.ntmps125
     go_wp2_with fail
     refine (l00Same_any a b c c' xs ys _ (hx.below hb0) (hy.below hb0)).mono ?_
     rintro e w1 ⟨rfl, q1⟩
     have hb1 := hb0.trans (q1.below _)
     generalize hr : decide (xs = ys) = r
     have HR := Lib.hid hr
     clear hr
     cases r
     · go_wp2
       go_ret
       exact ⟨ret_bool (by rw [sameF_list]; exact HR.out.symm), hb1⟩
     · go_wp2
       go_ret
       exact ⟨ret_bool (by rw [sameF_list]; exact HR.out.symm), hb1⟩
   · have h1 : (d != d') = true := by simpa using hd
     have h2 : (d == d') = false := by simpa using hd
     have HD := Lib.hid hd
     clear hd
     go_enter Try.func125, Try.ntmps125
     go_wp2
     go_ret
     exact ⟨ret_bool (sameF_no (.inr HD.out)).symm, hb0⟩
 · have h1 : (p != p') = true := by simpa using hp
   have h2 : (p == p') = false := by simpa using hp
   have HD := Lib.hid hp
   clear hp
   go_enter Try.func125, Try.ntmps125
   go_wp2
   go_ret
   exact ⟨ret_bool (sameF_no (.inl HD.out)).symm, hb0⟩
theorem implSameField_any (p d p' d' : Int) (a b : Option Addr) (c c' : Nat) (xs ys : List Int) (w : World) (hx : Rd w a xs) (hy : Rd w b ys) :
    Calls Try.prog 119 #[.agg #[.int .i64 p, .int .i64 d, .slice a xs.length c], .agg #[.int .i64 p', .int .i64 d', .slice b ys.length c']] w fun e w' => e = .returned (.bool (sameF p d xs p' d' ys)) ∧ Below w.heap.size w w' := by
 have hb0 := ((Below.refl w.heap.size w).alloc (Nat.le_refl _) (.cells #[.int .i64 p, .int .i64 d, .slice a xs.length c] 34)).alloc (by simp) (.cells #[.int .i64 p', .int .i64 d', .slice b ys.length c'] 34)
 by_cases hp : p = p'
 · subst hp
   by_cases hd : d = d'
   · subst hd
     go_enter Try.func119, Try.ntmps119
     go_wp2_with fail
     refine (slicesEqual_any a b c c' xs ys _ (hx.below hb0) (hy.below hb0)).mono ?_
     rintro e w1 ⟨rfl, q1⟩
     have hb1 := hb0.trans (q1.below _)
     generalize hr : decide (xs = ys) = r
     have HR := Lib.hid hr
     clear hr
     cases r
     · go_wp2
       go_ret
       exact ⟨ret_bool (by rw [sameF_list]; exact HR.out.symm), hb1⟩
     · go_wp2
       go_ret
       exact ⟨ret_bool (by rw [sameF_list]; exact HR.out.symm), hb1⟩
   · have h1 : (d != d') = true := by simpa using hd
     have h2 : (d == d') = false := by simpa using hd
     have HD := Lib.hid hd
     clear hd
     go_enter Try.func119, Try.ntmps119
     go_wp2
     go_ret
     exact ⟨ret_bool (sameF_no (.inr HD.out)).symm, hb0⟩
 · have h1 : (p != p') = true := by simpa using hp
   have h2 : (p == p') = false := by simpa using hp
   have HD := Lib.hid hp
   clear hp
   go_enter Try.func119, Try.ntmps119
   go_wp2
   go_ret
   exact ⟨ret_bool (sameF_no (.inl HD.out)).symm, hb0⟩
theorem eqCode_any (p d p' d' : Int) (a b ra rb : Option Addr) (c c' rc rc' : Nat) (xs ys : List Int) (xss yss : List (List Int)) (w : World) (hx : Rd w a xs) (hy : Rd w b ys) (hxs : RdS w ra xss) (hys : RdS w rb yss) :
    Calls Try.prog 73 #[.agg #[.int .i64 p, .int .i64 d, .slice a xs.length c, .slice ra xss.length rc], .agg #[.int .i64 p', .int .i64 d', .slice b ys.length c', .slice rb yss.length rc']] w fun e w' => e = .returned (.bool (sameC p d xs xss p' d' ys yss)) ∧ Below w.heap.size w w' := by
 obtain ⟨w0, hw0⟩ : ∃ w0, w0 = (w.alloc (.cells #[.int .i64 p, .int .i64 d, .slice a xs.length c, .slice ra xss.length rc] 37)).alloc (.cells #[.int .i64 p', .int .i64 d', .slice b ys.length c', .slice rb yss.length rc'] 37) := ⟨_, rfl⟩
 have hb0 : Below w.heap.size w w0 := by rw [hw0]; exact ((Below.refl _ _).alloc (Nat.le_refl _) _).alloc (by simp) _
 have kA : Blk w0 w.heap.size 37 #[.int .i64 p, .int .i64 d, .slice a xs.length c, .slice ra xss.length rc] := by rw [hw0]; exact (Blk.new _ _ _ rfl).alloc _
 have kB : Blk w0 (w.heap.size + 1) 37 #[.int .i64 p', .int .i64 d', .slice b ys.length c', .slice rb yss.length rc'] := by rw [hw0]; exact Blk.new _ _ _ (by simp)
 have s0 : w0.heap.size = w.heap.size + 1 + 1 := by rw [hw0]; simp
 have HW := Lib.hid hw0
 clear hw0
 go_enter Try.func73, Try.ntmps73
 go_wp2_with fail
 rw [← HW.out]
 refine (eqField_any p d p' d' a b c c' xs ys w0 (hx.below hb0) (hy.below hb0)).mono ?_
 rintro e w1 ⟨rfl, b1⟩
 have kA1 := kA.below b1 (by omega)
 have kB1 := kB.below b1 (by omega)
 have hb1 := hb0.trans (b1.mono (by omega))
 have f0 : w1.cell? ⟨w.heap.size, 3, none⟩ = some (.slice ra xss.length rc) := kA1.cell 3
 have f1 : w1.cell? ⟨w.heap.size + 1, 3, none⟩ = some (.slice rb yss.length rc') := kB1.cell 3
 generalize hr : sameF p d xs p' d' ys = r
 have HR := Lib.hid hr
 clear hr HW
 cases r
 · go_wp2
   go_ret
   exact ⟨ret_bool (by unfold sameC; rw [HR.out]; rfl), hb1⟩
 · go_wp2_with fail
   refine (eqInt64SS_any ra rb rc rc' xss yss w1 (hxs.below hb1) (hys.below hb1)).mono ?_
   rintro e w2 ⟨rfl, q2⟩
   have hb2 := hb1.trans (q2.below _)
   generalize hr : decide (xss = yss) = r
   have HR2 := Lib.hid hr
   clear hr
   cases r
   · go_wp2
     go_ret
     exact ⟨ret_bool (by unfold sameC; rw [HR.out, HR2.out]; rfl), hb2⟩
   · go_wp2
     go_ret
     exact ⟨ret_bool (by unfold sameC; rw [HR.out, HR2.out]; rfl), hb2⟩
theorem specSameCode_any (p d p' d' : Int) (a b ra rb : Option Addr) (c c' rc rc' : Nat) (xs ys : List Int) (xss yss : List (List Int)) (w : World) (hx : Rd w a xs) (hy : Rd w b ys) (hxs : RdS w ra xss) (hys : RdS w rb yss) :
    Calls Try.prog 41 #[.agg #[.int .i64 p, .int .i64 d, .slice a xs.length c, .slice ra xss.length rc], .agg #[.int .i64 p', .int .i64 d', .slice b ys.length c', .slice rb yss.length rc']] w fun e w' => e = .returned (.bool (sameC p d xs xss p' d' ys yss)) ∧ Below w.heap.size w w' := by
 obtain ⟨w0, hw0⟩ : ∃ w0, w0 = (w.alloc (.cells #[.int .i64 p, .int .i64 d, .slice a xs.length c, .slice ra xss.length rc] 37)).alloc (.cells #[.int .i64 p', .int .i64 d', .slice b ys.length c', .slice rb yss.length rc'] 37) := ⟨_, rfl⟩
 have hb0 : Below w.heap.size w w0 := by rw [hw0]; exact ((Below.refl _ _).alloc (Nat.le_refl _) _).alloc (by simp) _
 have kA : Blk w0 w.heap.size 37 #[.int .i64 p, .int .i64 d, .slice a xs.length c, .slice ra xss.length rc] := by rw [hw0]; exact (Blk.new _ _ _ rfl).alloc _
 have kB : Blk w0 (w.heap.size + 1) 37 #[.int .i64 p', .int .i64 d', .slice b ys.length c', .slice rb yss.length rc'] := by rw [hw0]; exact Blk.new _ _ _ (by simp)
 have s0 : w0.heap.size = w.heap.size + 1 + 1 := by rw [hw0]; simp
 have HW := Lib.hid hw0
 clear hw0
 go_enter Try.func41, Try.ntmps41
 go_wp2_with fail
 rw [← HW.out]
 refine (specSameField_any p d p' d' a b c c' xs ys w0 (hx.below hb0) (hy.below hb0)).mono ?_
 rintro e w1 ⟨rfl, b1⟩
 have kA1 := kA.below b1 (by omega)
 have kB1 := kB.below b1 (by omega)
 have hb1 := hb0.trans (b1.mono (by omega))
 have f0 : w1.cell? ⟨w.heap.size, 3, none⟩ = some (.slice ra xss.length rc) := kA1.cell 3
 have f1 : w1.cell? ⟨w.heap.size + 1, 3, none⟩ = some (.slice rb yss.length rc') := kB1.cell 3
 generalize hr : sameF p d xs p' d' ys = r
 have HR := Lib.hid hr
 clear hr HW
 cases r
 · go_wp2
   go_ret
   exact ⟨ret_bool (by unfold sameC; rw [HR.out]; rfl), hb1⟩
 · go_wp2_with fail
   refine (l10Same_any ra rb rc rc' xss yss w1 (hxs.below hb1) (hys.below hb1)).mono ?_
   rintro e w2 ⟨rfl, q2⟩
   have hb2 := hb1.trans (q2.below _)
   generalize hr : decide (xss = yss) = r
   have HR2 := Lib.hid hr
   clear hr
   cases r
   · go_wp2
     go_ret
     exact ⟨ret_bool (by unfold sameC; rw [HR.out, HR2.out]; rfl), hb2⟩
   · go_wp2
     go_ret
     exact ⟨ret_bool (by unfold sameC; rw [HR.out, HR2.out]; rfl), hb2⟩
theorem implSameCode_any (p d p' d' : Int) (a b ra rb : Option Addr) (c c' rc rc' : Nat) (xs ys : List Int) (xss yss : List (List Int)) (w : World) (hx : Rd w a xs) (hy : Rd w b ys) (hxs : RdS w ra xss) (hys : RdS w rb yss) :
    Calls Try.prog 37 #[.agg #[.int .i64 p, .int .i64 d, .slice a xs.length c, .slice ra xss.length rc], .agg #[.int .i64 p', .int .i64 d', .slice b ys.length c', .slice rb yss.length rc']] w fun e w' => e = .returned (.bool (sameC p d xs xss p' d' ys yss)) ∧ Below w.heap.size w w' := by
 obtain ⟨w0, hw0⟩ : ∃ w0, w0 = (w.alloc (.cells #[.int .i64 p, .int .i64 d, .slice a xs.length c, .slice ra xss.length rc] 37)).alloc (.cells #[.int .i64 p', .int .i64 d', .slice b ys.length c', .slice rb yss.length rc'] 37) := ⟨_, rfl⟩
 have hb0 : Below w.heap.size w w0 := by rw [hw0]; exact ((Below.refl _ _).alloc (Nat.le_refl _) _).alloc (by simp) _
 have kA : Blk w0 w.heap.size 37 #[.int .i64 p, .int .i64 d, .slice a xs.length c, .slice ra xss.length rc] := by rw [hw0]; exact (Blk.new _ _ _ rfl).alloc _
 have kB : Blk w0 (w.heap.size + 1) 37 #[.int .i64 p', .int .i64 d', .slice b ys.length c', .slice rb yss.length rc'] := by rw [hw0]; exact Blk.new _ _ _ (by simp)
 have s0 : w0.heap.size = w.heap.size + 1 + 1 := by rw [hw0]; simp
 have HW := Lib.hid hw0
 clear hw0
 go_enter Try.func37, Try.ntmps37
 go_wp2_with fail
 rw [← HW.out]
 refine (implSameField_any p d p' d' a b c c' xs ys w0 (hx.below hb0) (hy.below hb0)).mono ?_
 rintro e w1 ⟨rfl, b1⟩
 have kA1 := kA.below b1 (by omega)
 have kB1 := kB.below b1 (by omega)
 have hb1 := hb0.trans (b1.mono (by omega))
 have f0 : w1.cell? ⟨w.heap.size, 3, none⟩ = some (.slice ra xss.length rc) := kA1.cell 3
 have f1 : w1.cell? ⟨w.heap.size + 1, 3, none⟩ = some (.slice rb yss.length rc') := kB1.cell 3
 generalize hr : sameF p d xs p' d' ys = r
 have HR := Lib.hid hr
 clear hr HW
 cases r
 · go_wp2
   go_ret
   exact ⟨ret_bool (by unfold sameC; rw [HR.out]; rfl), hb1⟩
 · go_wp2_with fail
   refine (areSame_any ra rb rc rc' xss yss w1 (hxs.below hb1) (hys.below hb1)).mono ?_
   rintro e w2 ⟨rfl, q2⟩
   have hb2 := hb1.trans (q2.below _)
   generalize hr : decide (xss = yss) = r
   have HR2 := Lib.hid hr
   clear hr
   cases r
   · go_wp2
     go_ret
     exact ⟨ret_bool (by unfold sameC; rw [HR.out, HR2.out]; rfl), hb2⟩
   · go_wp2
     go_ret
     exact ⟨ret_bool (by unfold sameC; rw [HR.out, HR2.out]; rfl), hb2⟩
end Go.Proofs.Ytgmgpcaahanmiaa
namespace Go.Proofs.Ytgmgpcaahanmiaa
open Go.RowKit
def Kp (w w' : World) (lo hi : Nat) : Prop := w.heap.size ≤ w'.heap.size ∧ ∀ g, lo ≤ g → g < hi → w'.heap[g]? = w.heap[g]?
def Mk (w w' : World) (lo hi : Nat) : Prop := Below lo w w' ∧ ∀ g, hi ≤ g → g < w.heap.size → w'.heap[g]? = w.heap[g]?
section
variable {a b c w w' : World} {lo hi lo' hi' : Nat}
theorem Kp.refl (w : World) (lo hi : Nat) : Kp w w lo hi := ⟨Nat.le_refl _, fun _ _ _ => rfl⟩
theorem Kp.below (h : Below w.heap.size w w') (s : hi ≤ w.heap.size) : Kp w w' lo hi := ⟨h.size, fun g _ hg => h.block g (by omega)⟩
theorem Kp.trans (h : Kp a b lo hi) (k : Kp b c lo hi) : Kp a c lo hi := ⟨Nat.le_trans h.1 k.1, fun g h1 h2 => (k.2 g h1 h2).trans (h.2 g h1 h2)⟩
theorem Kp.sub (h : Kp a b lo hi) (h1 : lo ≤ lo') (h2 : hi' ≤ hi) : Kp a b lo' hi' := ⟨h.1, fun g a b => h.2 g (by omega) (by omega)⟩
theorem Mk.kp (h : Mk w w' lo hi) (d : hi' ≤ lo ∨ hi ≤ lo') (s : hi' ≤ w.heap.size) : Kp w w' lo' hi' :=
 ⟨h.1.size, fun g h1 h2 => by
  rcases d with d | d
  · exact h.1.block g (by omega)
  · exact h.2 g (by omega) (by omega)⟩
theorem Mk.refl (w : World) (lo hi : Nat) : Mk w w lo hi := ⟨Below.refl _ _, fun _ _ _ => rfl⟩
theorem Mk.trans (h : Mk a b lo hi) (k : Mk b c lo hi) : Mk a c lo hi := ⟨h.1.trans k.1, fun g h1 h2 => (k.2 g h1 (by have := h.1.size; omega)).trans (h.2 g h1 h2)⟩
theorem Mk.size (h : Mk w w' lo hi) : w.heap.size ≤ w'.heap.size := h.1.size
theorem Mk.wide (h : Mk w w' lo hi) (h1 : lo' ≤ lo) (h2 : hi ≤ hi') : Mk w w' lo' hi' := ⟨h.1.mono h1, fun g a b => h.2 g (by omega) b⟩
theorem Mk.grown {v : Value} (hg : w.grownBy w' v.ownBlock) (hi_ : In v lo hi) (hlo : lo ≤ w.heap.size) : Mk w w' lo hi :=
 ⟨Below.wrote hg hi_ hlo (Nat.le_refl _), fun g h1 h2 => hg.block g h2 (fun e => by have := hi_ g e.symm; omega)⟩
theorem Mk.alloc (h : Below w.heap.size w w') (h2 : lo ≤ w.heap.size) : Mk w w' lo hi := ⟨h.mono h2, fun g _ hg => h.block g hg⟩
end
theorem cell_block {w w' : World} {g : Nat} (h : w'.heap[g]? = w.heap[g]?) (i : Nat) : w'.cell? ⟨g, i, none⟩ = w.cell? ⟨g, i, none⟩ := by
 simp only [World.cell?]
 rw [h]
theorem Rd.kp {w w' : World} {a : Option Addr} {xs : List Int} (h : Rd w a xs) (k : Kp w w' 0 w.heap.size) : Rd w' a xs :=
 ⟨h.1, fun h0 => by
  obtain ⟨b, off, rfl, hb, hc⟩ := h.at_ h0
  exact ⟨b, off, rfl, fun i hi => (cell_block (k.2 b (Nat.zero_le _) hb) _).trans (hc i hi)⟩⟩
theorem RdS.kp {w w' : World} {a : Option Addr} {xss : List (List Int)} (h : RdS w a xss) (k : Kp w w' 0 w.heap.size) : RdS w' a xss :=
 ⟨h.1, fun h0 => by
  obtain ⟨b, off, rfl, hb, hc⟩ := h.at_ h0
  refine ⟨b, off, rfl, fun i hi => ?_⟩
  obtain ⟨ai, ci, h1, h2⟩ := hc i hi
  exact ⟨ai, ci, (cell_block (k.2 b (Nat.zero_le _) hb) _).trans h1, h2.kp k⟩⟩
theorem Blk.kp {w w' : World} {g : Nat} {t : TypeId} {cs : Array Value} (h : Blk w g t cs) (k : Kp w w' g (g + 1)) : Blk w' g t cs := (k.2 g (Nat.le_refl _) (by omega)).trans h
theorem ownsRow_kp {w w' : World} {B hi e size n : Nat} {v : Value} {vs : List Value} (h : w.ownsRow B e size v n vs) (hv : In v B hi) (k : Kp w w' B hi) : w'.ownsRow B e size v n vs := by
 obtain ⟨h1, h2⟩ := h
 refine ⟨h1, ?_⟩
 rcases h2 with h2 | ⟨g, cap, cur, rfl, hB, hg, r⟩
 · exact .inl h2
 · have := hv g rfl
   exact .inr ⟨g, cap, cur, rfl, hB, (k.2 g this.1 this.2).trans hg, r⟩
def OwnH (w : World) (B hi : Nat) (v : Value) (xs : List Int) : Prop := Own w B v xs ∧ In v B hi
theorem Own.toH {w : World} {B : Nat} {v : Value} {xs : List Int} (h : Own w B v xs) : OwnH w B w.heap.size v xs := ⟨h, h.lt⟩
theorem OwnH.kp {w w' : World} {B hi : Nat} {v : Value} {xs : List Int} (h : OwnH w B hi v xs) (k : Kp w w' B hi) : OwnH w' B hi v xs := ⟨⟨h.1.1, ownsRow_kp h.1.2 h.2 k⟩, h.2⟩
theorem OwnH.rd {w : World} {B hi : Nat} {a : Option Addr} {n c : Nat} {xs : List Int} (h : OwnH w B hi (.slice a n c) xs) : Rd w a xs := h.1.rd
def Bnd (B hi : Nat) (vs : List Value) : Prop := ∀ (i : Nat) (x : Value), vs[i]? = some x → In x B hi
def OwnSH (w : World) (B hi : Nat) (v : Value) (xss : List (List Int)) : Prop :=
 xss.length ≤ 1073741824 ∧ ∃ vs : List Value, w.ownsRow B 22 1 v xss.length vs ∧ Inner w B vs xss ∧ In v B hi ∧ Bnd B hi vs
theorem OwnS.toH {w : World} {B : Nat} {v : Value} {xss : List (List Int)} (h : OwnS w B v xss) : OwnSH w B w.heap.size v xss := by
 obtain ⟨hl, vs, hr, hi⟩ := h
 exact ⟨hl, vs, hr, hi, hr.lt, fun i x hx => (hi.2.1 i x hx).lt⟩
theorem OwnSH.own {w : World} {B hi : Nat} {v : Value} {xss : List (List Int)} (h : OwnSH w B hi v xss) : OwnS w B v xss := by
 obtain ⟨hl, vs, hr, hi, _⟩ := h
 exact ⟨hl, vs, hr, hi⟩
theorem OwnSH.kp {w w' : World} {B hi : Nat} {v : Value} {xss : List (List Int)} (h : OwnSH w B hi v xss) (k : Kp w w' B hi) : OwnSH w' B hi v xss := by
 obtain ⟨hl, vs, hr, hi, hv, hb⟩ := h
 exact ⟨hl, vs, ownsRow_kp hr hv k, ⟨hi.1, fun i x hx => (OwnH.kp (w := w) ⟨hi.2.1 i x hx, hb i x hx⟩ k).1, hi.2.2⟩, hv, hb⟩
theorem OwnSH.rd {w : World} {B hi : Nat} {a : Option Addr} {n c : Nat} {xss : List (List Int)} (h : OwnSH w B hi (.slice a n c) xss) : RdS w a xss := h.own.rd
def OwnCH (w : World) (B hi : Nat) (v u : Value) (xs : List Int) (xss : List (List Int)) : Prop := ∃ M, B ≤ M ∧ M ≤ hi ∧ OwnH w B M v xs ∧ OwnSH w M hi u xss
theorem OwnC.toH {w : World} {B : Nat} {v u : Value} {xs : List Int} {xss : List (List Int)} (h : OwnC w B v u xs xss) (hM : B ≤ w.heap.size) : OwnCH w B w.heap.size v u xs xss := by
 obtain ⟨M, h1, h2, h3, h4⟩ := h
 by_cases hm : M ≤ w.heap.size
 · exact ⟨M, h1, hm, ⟨h2, h3⟩, h4.toH⟩
 · refine ⟨w.heap.size, hM, Nat.le_refl _, h2.toH, ?_⟩
   obtain ⟨hl, vs, hr, hi⟩ := h4
   have no : ∀ x k, In x M w.heap.size → Value.ownBlock x = some k → False := fun x k h e => by have := h k e; omega
   obtain ⟨r1, r2⟩ := hr
   refine ⟨hl, vs, ⟨r1, ?_⟩, hi.mono (by omega), fun k e => (no _ k (World.ownsRow.lt ⟨r1, r2⟩) e).elim, fun i x hx k e => (no _ k (hi.2.1 i x hx).lt e).elim⟩
   rcases r2 with r2 | ⟨g, cap, cur, e, hb, hg, r⟩
   · exact .inl r2
   · have := (Array.getElem?_eq_some_iff.1 hg).1
     omega
theorem OwnCH.kp {w w' : World} {B hi : Nat} {v u : Value} {xs : List Int} {xss : List (List Int)} (h : OwnCH w B hi v u xs xss) (k : Kp w w' B hi) : OwnCH w' B hi v u xs xss := by
 obtain ⟨M, h1, h2, h3, h4⟩ := h
 exact ⟨M, h1, h2, h3.kp (k.sub (Nat.le_refl _) h2), h4.kp (k.sub h1 (Nat.le_refl _))⟩
theorem OwnCH.rd {w : World} {B hi : Nat} {a b : Option Addr} {n c m d : Nat} {xs : List Int} {xss : List (List Int)} (h : OwnCH w B hi (.slice a n c) (.slice b m d) xs xss) : Rd w a xs := by
 obtain ⟨M, h1, h2, h3, h4⟩ := h
 exact h3.rd
theorem OwnCH.rds {w : World} {B hi : Nat} {a b : Option Addr} {n c m d : Nat} {xs : List Int} {xss : List (List Int)} (h : OwnCH w B hi (.slice a n c) (.slice b m d) xs xss) : RdS w b xss := by
 obtain ⟨M, h1, h2, h3, h4⟩ := h
 exact h4.rd
theorem sum_le_of {ls : List Nat} (h : ∀ n ∈ ls, n ≤ 1073741824) : ls.sum ≤ ls.length * 1073741824 := by
 induction ls with
 | nil => simp
 | cons n ls ih =>
  have h1 := ih (fun m hm => h m (List.mem_cons_of_mem _ hm))
  have h2 := h n List.mem_cons_self
  rw [List.sum_cons, List.length_cons, Nat.add_mul]
  omega
theorem OwnSH.sum {w : World} {B hi : Nat} {v : Value} {xss : List (List Int)} (h : OwnSH w B hi v xss) : (xss.map List.length).sum ≤ 1152921504606846976 := by
 obtain ⟨hl, vs, hr, hin, _⟩ := h
 have h1 : ∀ n ∈ xss.map List.length, n ≤ 1073741824 := by
  intro n hn
  obtain ⟨xs, hx, rfl⟩ := List.mem_map.1 hn
  obtain ⟨i, hi, rfl⟩ := List.getElem_of_mem hx
  have hil : i < vs.length := by rw [hin.1]; exact hi
  have := (hin.2.1 i _ (List.getElem?_eq_getElem hil)).1
  rwa [nthL_lt hi] at this
 have h2 := sum_le_of h1
 rw [List.length_map] at h2
 have h3 : xss.length * 1073741824 ≤ 1073741824 * 1073741824 := Nat.mul_le_mul_right _ hl
 omega
theorem OwnCH.len {w : World} {B hi : Nat} {v u : Value} {xs : List Int} {xss : List (List Int)} (h : OwnCH w B hi v u xs xss) : xs.length ≤ 1073741824 := by
 obtain ⟨M, h1, h2, h3, h4⟩ := h
 exact h3.1.1
theorem OwnCH.sum {w : World} {B hi : Nat} {v u : Value} {xs : List Int} {xss : List (List Int)} (h : OwnCH w B hi v u xs xss) : (xss.map List.length).sum ≤ 1152921504606846976 := by
 obtain ⟨M, h1, h2, h3, h4⟩ := h
 exact h4.sum
def markS (k : Int) : List Nat → List (List Int)
 | [] => []
 | n :: ls => marked k n :: markS (k + n) ls
theorem markS_len (k : Int) (ls : List Nat) : (markS k ls).length = ls.length := by
 induction ls generalizing k with
 | nil => rfl
 | cons n ls ih => simp [markS, ih]
theorem markS_nth (k : Int) (ls : List Nat) (i : Nat) (hi : i < ls.length) : nthL (markS k ls) i = marked (k + ((ls.take i).sum : Nat)) (ls.getD i 0) := by
 induction ls generalizing k i with
 | nil => simp at hi
 | cons n ls ih =>
  rcases i with _ | i
  · simp [markS, nthL]
  · have := ih (k + n) i (by simpa using hi)
    simp only [nthL] at this
    simp only [markS, nthL, List.getD_cons_succ, this, List.take_succ_cons, List.sum_cons]
    congr 1; omega
theorem OwnSH.row {w : World} {B hi : Nat} {v : Value} {yss : List (List Int)} (h : OwnSH w B hi v yss) {i : Nat} (hi' : i < yss.length) :
    ∃ a c, OwnH w B hi (.slice a (nthL yss i).length c) (nthL yss i) ∧
     (∀ b off m d, v = .slice (some ⟨b, off, none⟩) m d → w.cell? ⟨b, off + i, none⟩ = some (.slice a (nthL yss i).length c)) ∧
     ∀ w' ys, OwnH w' B hi (.slice a (nthL yss i).length c) ys → ys.length = (nthL yss i).length → w.grownBy w' (Value.ownBlock (.slice a (nthL yss i).length c)) → OwnSH w' B hi v (yss.set i ys) := by
 obtain ⟨hl, vs, hr, hin, hv, hb⟩ := h
 have hil : i < vs.length := by rw [hin.1]; exact hi'
 have hgi := List.getElem?_eq_getElem hil
 have ho := hin.2.1 i _ hgi
 obtain ⟨a, c, e, _, _⟩ := ho.form
 rw [e] at ho
 have hIn := hb i _ hgi
 rw [e] at hIn hgi
 have hne : ∀ k, Value.ownBlock (.slice a (nthL yss i).length c) = some k → v.ownBlock ≠ some k := Own.notSliceBlock hr ho
 refine ⟨a, c, ⟨ho, hIn⟩, ?_, ?_⟩
 · intro b off m d hvv
   have hr2 := hr
   rcases hr.2 with ⟨rfl, _⟩ | ⟨g, cap, cur, rfl, _⟩
   · injection hvv with h0 _ _; cases h0
   · injection hvv with h0 _ _
     injection h0 with h0
     injection h0 with h1 h2
     subst h1; subst h2
     have := hr2.cellAt i (by omega)
     rw [Nat.zero_add, this, hgi]
 intro w' ys ho' hyl hg
 refine ⟨by simpa using hl, vs, ?_, ⟨by simpa using hin.1, fun j x hx => ?_, hin.2.2⟩, hv, hb⟩
 · rw [List.length_set]
   refine hr.kept hg ?_
   rcases hx : v.ownBlock with _ | k
   · exact .inl rfl
   · exact .inr fun e2 => hne k e2.symm hx
 · by_cases hj : j = i
   · subst hj
     rw [hgi] at hx
     injection hx with hx
     subst hx
     have : nthL (yss.set j ys) j = ys := by simp [nthL, hi']
     rw [this]
     exact ho'.1
   · have : nthL (yss.set i ys) j = nthL yss j := by simp [nthL, List.getD_eq_getElem?_getD, List.getElem?_set_ne (Ne.symm hj)]
     rw [this]
     refine (hin.2.1 j x hx).grow hg ?_
     rcases hxb : x.ownBlock with _ | k
     · exact .inl rfl
     · exact .inr fun e2 => hin.2.2 i j _ _ k (Ne.symm hj) hgi hx e2.symm hxb
end Go.Proofs.Ytgmgpcaahanmiaa
namespace Go.Proofs.Ytgmgpcaahanmiaa
open Go.RowKit
theorem Kp.alloc {a b : World} {lo hi : Nat} (h : Kp a b lo hi) (s : hi ≤ b.heap.size) (o : Obj) : Kp a (b.alloc o) lo hi := h.trans (Kp.below ((Below.refl _ _).alloc (Nat.le_refl _) o) s)
theorem Kp.drew {a b : World} {lo hi : Nat} (h : Kp a b lo hi) : Kp a b.drew lo hi := h
theorem Kp.grown {a b c : World} {lo hi : Nat} {row : Option Nat} (h : Kp a b lo hi) (hg : b.grownBy c row) (hne : ∀ k, row = some k → k < lo ∨ hi ≤ k) (s : hi ≤ b.heap.size) : Kp a c lo hi :=
 h.trans ⟨hg.size, fun g h1 h2 => hg.block g (by omega) (fun e => by have := hne g e.symm; omega)⟩
theorem Kp.setCell {a b : World} {lo hi : Nat} (h : Kp a b lo hi) {p : Addr} (hp : p.block < lo ∨ hi ≤ p.block) (v : Value) : Kp a (b.setCell p v) lo hi :=
 ⟨by have := h.1; simpa using this, fun g h1 h2 => (Below.heap_setCell b p v g (by omega)).trans (h.2 g h1 h2)⟩
section
variable {w : World} {B hi : Nat} {v r : Value} {xss : List (List Int)} {xs : List Int}
theorem run_append_row (hown : OwnSH w B hi v xss) (g1 : Nat) (hc : w.cell? ⟨g1, 0, none⟩ = some r) (hr : Own w hi r xs) (hB : B ≤ hi) (hhi : hi ≤ w.heap.size) (hl : xss.length + 1 ≤ 1073741824) (ty : TypeId) :
    ∃ v' w', (Builtin.append_ #[35, 35] ty #[v, .slice (some ⟨g1, 0, none⟩) 1 1]).run Try.prog w = .ok v' w' ∧ OwnS w' B v' (xss ++ [xs]) ∧ w.grownBy w' v.ownBlock ∧ (v'.ownBlock = v.ownBlock ∨ v'.ownBlock = some w.heap.size) := by
 obtain ⟨i0, hi0, hz0, hz1, hz2⟩ := info_parts Try.info_row
 obtain ⟨hxl, vs, hrow, hin, hv, hb⟩ := hown
 obtain ⟨ar, cr, er, _, _⟩ := hr.form
 obtain ⟨v', w', h1, h2, h3, _, h5⟩ := run_append_own_at (P := Try.prog) w B 35 ty 22 i0 (.slice none 0 0) 1 24 Try.underlying35 hi0 hz0 hz1 hz2 rfl (by omega) v xss.length vs hrow ⟨g1, 0, none⟩ 1 1 [r] rfl
  (fun j u hu => by
   have hj := (List.getElem?_eq_some_iff.1 hu).1
   simp at hj
   subst hj
   injection hu with hu
   subst hu
   rw [Addr.add_lit]; exact hc)
  (by intro u hu; rw [List.mem_singleton.1 hu, er]; rfl) (by unfold maxLen; omega) (by omega) (by omega)
 refine ⟨v', w', h1, ⟨by simpa using hl, vs ++ [r], by simpa using h2, by simp [hin.1], fun i x hx => ?_, fun i j x y k hij hx hy hk => ?_⟩, h3, h5⟩
 · have grow : ∀ (x : Value) (B' : Nat) (zs : List Int), Own w B' x zs → Own w' B' x zs := fun x B' zs ho => ho.grow h3 (by
     rcases hxb : x.ownBlock with _ | k
     · exact .inl rfl
     · exact .inr fun e => Own.notSliceBlock hrow ho k hxb e.symm)
   rcases Nat.lt_or_ge i vs.length with hi' | hi'
   · rw [List.getElem?_append_left hi'] at hx
     have e : nthL (xss ++ [xs]) i = nthL xss i := by rw [nthL, nthL, List.getD_eq_getElem?_getD, List.getElem?_append_left (by have := hin.1; omega), ← List.getD_eq_getElem?_getD]
     rw [e]
     exact grow _ _ _ (hin.2.1 i x hx)
   · have h2 := (List.getElem?_eq_some_iff.1 hx).1
     simp at h2
     obtain rfl : i = vs.length := by omega
     simp at hx
     subst hx
     have e : nthL (xss ++ [xs]) vs.length = xs := by simp [nthL, hin.1]
     rw [e]
     exact (grow _ _ _ hr).mono hB
 · have old : ∀ (i : Nat) (y : Value) (k : Nat), i < vs.length → (vs ++ [r])[i]? = some y → y.ownBlock = some k → k < hi := fun i y k hi' hy hk => by
     rw [List.getElem?_append_left hi'] at hy
     exact (hb i y hy k hk).2
   have new : ∀ (i : Nat) (y : Value) (k : Nat), ¬ i < vs.length → (vs ++ [r])[i]? = some y → i = vs.length ∧ (y.ownBlock = some k → hi ≤ k) := fun i y k hi' hy => by
    have hi2 := (List.getElem?_eq_some_iff.1 hy).1
    simp at hi2
    obtain rfl : i = vs.length := by omega
    simp at hy
    subst hy
    exact ⟨rfl, fun hk => (hr.lt k hk).1⟩
   intro hyk
   by_cases h1 : i < vs.length <;> by_cases h2 : j < vs.length
   · rw [List.getElem?_append_left h1] at hx
     rw [List.getElem?_append_left h2] at hy
     exact hin.2.2 i j x y k hij hx hy hk hyk
   · have a1 := old i x k h1 hx hk
     have a2 := (new j y k h2 hy).2 hyk
     omega
   · have a1 := old j y k h2 hy hyk
     have a2 := (new i x k h1 hx).2 hk
     omega
   · have a1 := (new i x k h1 hx).1
     have a2 := (new j y k h2 hy).1
     omega
theorem wp_append_row {o : Oper} {a : Act} {K : Act → World → Prop} {Q : Exit → Act → World → Prop} (s x : Operand)
    (ho : o.op = .call { callee := .builtin .append, args := #[s, x], argTypes := #[35, 35] })
    (hs : a.eval s = v) (hown : OwnSH w B hi v xss) (g1 : Nat) (hx : a.eval x = .slice (some ⟨g1, 0, none⟩) 1 1) (hc : w.cell? ⟨g1, 0, none⟩ = some r) (hr : Own w hi r xs) (hB : B ≤ hi) (hhi : hi ≤ w.heap.size) (hl : xss.length + 1 ≤ 1073741824)
    (h : ∀ v' w', OwnS w' B v' (xss ++ [xs]) → w.grownBy w' v.ownBlock → (v'.ownBlock = v.ownBlock ∨ v'.ownBlock = some w.heap.size) → K (a.put o.dst v') w') : Oper.wp Try.prog o a w K Q := by
 obtain ⟨v', w', hrun, h2, h3, h4⟩ := run_append_row hown g1 hc hr hB hhi hl o.type
 unfold Oper.wp execOp
 simp only [ho, resolve, invoke, builtin, Sem.run_bind, Sem.run_pure, Result.andThen_ok, List.map_toArray, List.map_cons, List.map_nil, hs, hx, hrun]
 exact h v' w' h2 h3 h4
theorem wpList_append_row {ops : Array Oper} {rest : List Oper} {o : Oper} {a : Act} {Q : Exit → Act → World → Prop} (hgd : o.guard = none) (s x : Operand)
    (ho : o.op = .call { callee := .builtin .append, args := #[s, x], argTypes := #[35, 35] })
    (hs : a.eval s = v) (hown : OwnSH w B hi v xss) (g1 : Nat) (hx : a.eval x = .slice (some ⟨g1, 0, none⟩) 1 1) (hc : w.cell? ⟨g1, 0, none⟩ = some r) (hr : Own w hi r xs) (hB : B ≤ hi) (hhi : hi ≤ w.heap.size) (hl : xss.length + 1 ≤ 1073741824)
    (h : ∀ v' w', OwnS w' B v' (xss ++ [xs]) → w.grownBy w' v.ownBlock → (v'.ownBlock = v.ownBlock ∨ v'.ownBlock = some w.heap.size) → wpList Try.prog ops Q rest (a.put o.dst v') w') :
    wpList Try.prog ops Q (o :: rest) a w :=
 wpList_plain hgd fun _ hK => wp_append_row s x ho hs hown g1 hx hc hr hB hhi hl fun v' w' h2 h3 h4 => hK _ _ (h v' w' h2 h3 h4)
theorem step_append_row {ops : Array Oper} {o : Oper} {a : Act} {K : Act → World → Prop} {Q : Exit → Act → World → Prop} {E : Prop} (hgd : o.guard = none) (s x : Operand)
    (ho : o.op = .call { callee := .builtin .append, args := #[s, x], argTypes := #[35, 35] })
    (hs : a.eval s = v) (hown : OwnSH w B hi v xss) (g1 : Nat) (hx : a.eval x = .slice (some ⟨g1, 0, none⟩) 1 1) (hc : w.cell? ⟨g1, 0, none⟩ = some r) (hr : Own w hi r xs) (hB : B ≤ hi) (hhi : hi ≤ w.heap.size) (hl : xss.length + 1 ≤ 1073741824)
    (h : ∀ v' w', OwnS w' B v' (xss ++ [xs]) → w.grownBy w' v.ownBlock → (v'.ownBlock = v.ownBlock ∨ v'.ownBlock = some w.heap.size) → K (a.put o.dst v') w') :
    if Region.wanted o (yielded ops a.tmps) = true then Oper.wp Try.prog o a w K Q else E := by
 have hw : Region.wanted o (yielded ops a.tmps) = true := by simp [Region.wanted, hgd]
 rw [if_pos hw]
 exact wp_append_row s x ho hs hown g1 hx hc hr hB hhi hl h
end
end Go.Proofs.Ytgmgpcaahanmiaa
namespace Go.Proofs.Ytgmgpcaahanmiaa
open Go.RowKit
section
variable {w : World} {B hi g n c : Nat} {v : Value} {yss : List (List Int)}
theorem OwnS.row (h : OwnS w B v yss) {i : Nat} (hi : i < yss.length) :
    ∃ a c, Own w B (.slice a (nthL yss i).length c) (nthL yss i) ∧
     (∀ b off m d, v = .slice (some ⟨b, off, none⟩) m d → w.cell? ⟨b, off + i, none⟩ = some (.slice a (nthL yss i).length c)) ∧
     ∀ w' ys, Own w' B (.slice a (nthL yss i).length c) ys → ys.length = (nthL yss i).length → w.grownBy w' (Value.ownBlock (.slice a (nthL yss i).length c)) → OwnS w' B v (yss.set i ys) := by
 obtain ⟨a, c, h1, h2, h3⟩ := h.toH.row hi
 exact ⟨a, c, h1.1, h2, fun w' ys ho hl hg => (h3 w' ys ⟨ho, h1.2⟩ hl hg).own⟩
theorem OwnS.at_ (h : OwnS w B v yss) (h0 : 0 < yss.length) : ∃ g c, v = .slice (some ⟨g, 0, none⟩) yss.length c ∧ B ≤ g ∧ g < w.heap.size ∧ yss.length ≤ c ∧ c ≤ 9223372036854775807 := by
 obtain ⟨hl, vs, hr, hin⟩ := h
 rcases hr.2 with ⟨_, h1⟩ | ⟨g, cap, cur, rfl, hb, hg, hn, hm, hs, ht⟩
 · omega
 · unfold maxLen at hm
   exact ⟨g, cap, rfl, hb, (Array.getElem?_eq_some_iff.1 hg).1, hn, by omega⟩
theorem OwnS.frozen (h : OwnS w B (.slice (some ⟨g, 0, none⟩) n c) yss) (j : Nat) : w.frozen? ⟨g, j, none⟩ = false := by
 have e := h.len
 obtain ⟨hl, vs, hr, hin⟩ := h
 subst e
 exact hr.frozenAt j
theorem row_grow {w' : World} {m : Nat} {vs : List Value} {x : Value} {xs : List Int} (hr : w.ownsRow B 22 1 v m vs) (hg : w.grownBy w' v.ownBlock) {B2 : Nat} (ho : Own w B2 x xs) : Own w' B2 x xs :=
 ho.grow hg (by
  rcases hxb : x.ownBlock with _ | k
  · exact .inl rfl
  · exact .inr fun e => Own.notSliceBlock hr ho k hxb e.symm)
theorem nthL_set_same {xss : List (List Int)} {i : Nat} (h : i < xss.length) (v : List Int) : nthL (xss.set i v) i = v := by simp [nthL, h]
theorem nthL_set_ne {xss : List (List Int)} {i j : Nat} (h : i ≠ j) (v : List Int) : nthL (xss.set i v) j = nthL xss j := by
 simp [nthL, List.getD_eq_getElem?_getD, List.getElem?_set_ne h]
theorem OwnSH.put (h : OwnSH w B hi (.slice (some ⟨g, 0, none⟩) n c) yss) {r : Value} {ys : List Int} (hr : Own w hi r ys) (hB : B ≤ hi) {j : Nat} (hj : j < yss.length) :
    OwnS (w.setCell ⟨g, j, none⟩ r) B (.slice (some ⟨g, 0, none⟩) n c) (yss.set j ys) ∧ w.grownBy (w.setCell ⟨g, j, none⟩ r) (some g) := by
 have e := h.own.len
 subst e
 obtain ⟨hl, vs, ho, hin, hv, hb⟩ := h
 obtain ⟨h1, h2⟩ := ho.stored j r
 have row : ∀ (x : Value) (B2 : Nat) (xs : List Int), Own w B2 x xs → Own (w.setCell ⟨g, j, none⟩ r) B2 x xs := fun x B2 xs hx => row_grow ho h2 hx
 refine ⟨⟨by simpa using hl, vs.set j r, by rw [List.length_set]; exact h1, by simp [hin.1], fun i x hx => ?_, fun i k x y b hik hx hy hxb hyb => ?_⟩, h2⟩
 · by_cases e : i = j
   · subst e
     rw [List.getElem?_set_self (by rw [hin.1]; exact hj)] at hx
     injection hx with hx
     subst hx
     rw [nthL_set_same hj]
     exact (row _ _ _ hr).mono hB
   · rw [List.getElem?_set_ne (Ne.symm e)] at hx
     rw [nthL_set_ne (Ne.symm e)]
     exact row _ _ _ (hin.2.1 i x hx)
 · have cas : ∀ (q : Nat) (z : Value), (vs.set j r)[q]? = some z → (q = j ∧ z = r) ∨ (q ≠ j ∧ vs[q]? = some z) := fun q z hz => by
     by_cases e : q = j
     · subst e
       rw [List.getElem?_set_self (by rw [hin.1]; exact hj)] at hz
       injection hz with hz
       exact .inl ⟨rfl, hz.symm⟩
     · rw [List.getElem?_set_ne (Ne.symm e)] at hz
       exact .inr ⟨e, hz⟩
   rcases cas i x hx with ⟨e1, e2⟩ | ⟨e1, e2⟩ <;> rcases cas k y hy with ⟨f1, f2⟩ | ⟨f1, f2⟩
   · omega
   · subst e2
     have a1 := (hr.lt b hxb).1
     have a2 := (hb k y f2 b hyb).2
     omega
   · subst f2
     have a1 := (hr.lt b hyb).1
     have a2 := (hb i x e2 b hxb).2
     omega
   · exact hin.2.2 i k x y b hik e2 f2 hxb hyb
theorem OwnS.swap (h : OwnS w B (.slice (some ⟨g, 0, none⟩) n c) yss) {i j : Nat} (hi : i < yss.length) (hj : j < yss.length) (hij : i ≠ j) {x y : Value} (hx : w.cell? ⟨g, i, none⟩ = some x) (hy : w.cell? ⟨g, j, none⟩ = some y) :
    OwnS ((w.setCell ⟨g, i, none⟩ y).setCell ⟨g, j, none⟩ x) B (.slice (some ⟨g, 0, none⟩) n c) ((yss.set i (nthL yss j)).set j (nthL yss i)) ∧ w.grownBy ((w.setCell ⟨g, i, none⟩ y).setCell ⟨g, j, none⟩ x) (some g) := by
 have e := h.len
 subst e
 obtain ⟨hl, vs, ho, hin⟩ := h
 have vx : vs[i]? = some x := by rw [← ho.cellAt i (by omega)]; exact hx
 have vy : vs[j]? = some y := by rw [← ho.cellAt j (by omega)]; exact hy
 obtain ⟨h1, h2⟩ := ho.stored i y
 obtain ⟨h3, h4⟩ := h1.stored j x
 have row : ∀ (z : Value) (B2 : Nat) (xs : List Int), Own w B2 z xs → Own ((w.setCell ⟨g, i, none⟩ y).setCell ⟨g, j, none⟩ x) B2 z xs := fun z B2 xs hz => row_grow h1 h4 (row_grow ho h2 hz)
 have hil : i < vs.length := by rw [hin.1]; exact hi
 have hjl : j < vs.length := by rw [hin.1]; exact hj
 -- which row stands where
 have cas : ∀ (q : Nat) (z : Value), ((vs.set i y).set j x)[q]? = some z → ∃ q', vs[q']? = some z ∧ ((q = j ∧ q' = i) ∨ (q = i ∧ q ≠ j ∧ q' = j) ∨ (q ≠ i ∧ q ≠ j ∧ q' = q)) := fun q z hz => by
  by_cases e : q = j
  · subst e
    rw [List.getElem?_set_self (by rw [List.length_set]; exact hjl)] at hz
    injection hz with hz
    subst hz
    exact ⟨i, vx, .inl ⟨rfl, rfl⟩⟩
  · rw [List.getElem?_set_ne (Ne.symm e)] at hz
    by_cases e2 : q = i
    · subst e2
      rw [List.getElem?_set_self hil] at hz
      injection hz with hz
      subst hz
      exact ⟨j, vy, .inr (.inl ⟨rfl, e, rfl⟩)⟩
    · rw [List.getElem?_set_ne (Ne.symm e2)] at hz
      exact ⟨q, hz, .inr (.inr ⟨e2, e, rfl⟩)⟩
 refine ⟨⟨by simpa using hl, (vs.set i y).set j x, by simpa using h3, by simp [hin.1], fun q z hz => ?_, fun q k z u b hqk hz hu hzb hub => ?_⟩, grown_trans_row h2 h4⟩
 · obtain ⟨q', hq, hc⟩ := cas q z hz
   have o := row _ _ _ (hin.2.1 q' z hq)
   rcases hc with ⟨rfl, rfl⟩ | ⟨rfl, hne, rfl⟩ | ⟨h1, h2, rfl⟩
   · rw [nthL_set_same (by rw [List.length_set]; exact hj)]; exact o
   · rw [nthL_set_ne (Ne.symm hne), nthL_set_same hi]; exact o
   · rw [nthL_set_ne (Ne.symm h2), nthL_set_ne (Ne.symm h1)]; exact o
 · obtain ⟨q', hq, hc⟩ := cas q z hz
   obtain ⟨k', hk, hd⟩ := cas k u hu
   exact hin.2.2 q' k' z u b (by omega) hq hk hzb hub
theorem OwnSH.put2 (h : OwnSH w B hi (.slice (some ⟨g, 0, none⟩) n c) yss) {r y : Value} {ys : List Int} (hr : Own w hi r ys) (hB : B ≤ hi) {i t : Nat} (hi' : i < yss.length) (ht : t < yss.length) (hy : w.cell? ⟨g, t, none⟩ = some y) :
    OwnS ((w.setCell ⟨g, i, none⟩ y).setCell ⟨g, t, none⟩ r) B (.slice (some ⟨g, 0, none⟩) n c) ((yss.set i (nthL yss t)).set t ys) ∧ w.grownBy ((w.setCell ⟨g, i, none⟩ y).setCell ⟨g, t, none⟩ r) (some g) := by
 have e := h.own.len
 subst e
 obtain ⟨hl, vs, ho, hin, hv, hb⟩ := h
 have vy : vs[t]? = some y := by rw [← ho.cellAt t (by omega)]; exact hy
 obtain ⟨h1, h2⟩ := ho.stored i y
 obtain ⟨h3, h4⟩ := h1.stored t r
 have row : ∀ (z : Value) (B2 : Nat) (xs : List Int), Own w B2 z xs → Own ((w.setCell ⟨g, i, none⟩ y).setCell ⟨g, t, none⟩ r) B2 z xs := fun z B2 xs hz => row_grow h1 h4 (row_grow ho h2 hz)
 have hil : i < vs.length := by rw [hin.1]; exact hi'
 have htl : t < vs.length := by rw [hin.1]; exact ht
 have cas : ∀ (q : Nat) (z : Value), ((vs.set i y).set t r)[q]? = some z → (q = t ∧ z = r) ∨ ∃ q', vs[q']? = some z ∧ q ≠ t ∧ ((q = i ∧ q' = t) ∨ (q ≠ i ∧ q' = q)) := fun q z hz => by
  by_cases e : q = t
  · subst e
    rw [List.getElem?_set_self (by rw [List.length_set]; exact htl)] at hz
    injection hz with hz
    exact .inl ⟨rfl, hz.symm⟩
  · rw [List.getElem?_set_ne (Ne.symm e)] at hz
    by_cases e2 : q = i
    · subst e2
      rw [List.getElem?_set_self hil] at hz
      injection hz with hz
      subst hz
      exact .inr ⟨t, vy, e, .inl ⟨rfl, rfl⟩⟩
    · rw [List.getElem?_set_ne (Ne.symm e2)] at hz
      exact .inr ⟨q, hz, e, .inr ⟨e2, rfl⟩⟩
 refine ⟨⟨by simpa using hl, (vs.set i y).set t r, by simpa using h3, by simp [hin.1], fun q z hz => ?_, fun q k z u b hqk hz hu hzb hub => ?_⟩, grown_trans_row h2 h4⟩
 · rcases cas q z hz with ⟨rfl, rfl⟩ | ⟨q', hq, hne, hc⟩
   · rw [nthL_set_same (by rw [List.length_set]; exact ht)]
     exact (row _ _ _ hr).mono hB
   · have o := row _ _ _ (hin.2.1 q' z hq)
     rcases hc with ⟨rfl, rfl⟩ | ⟨h1, rfl⟩
     · rw [nthL_set_ne (Ne.symm hne), nthL_set_same hi']; exact o
     · rw [nthL_set_ne (Ne.symm hne), nthL_set_ne (Ne.symm h1)]; exact o
 · rcases cas q z hz with ⟨rfl, rfl⟩ | ⟨q', hq, hne, hc⟩ <;> rcases cas k u hu with ⟨rfl, rfl⟩ | ⟨k', hk, hke, hd⟩
   · omega
   · have a1 := (hr.lt b hzb).1
     have a2 := (hb k' u hk b hub).2
     omega
   · have a1 := (hr.lt b hub).1
     have a2 := (hb q' z hq b hzb).2
     omega
   · exact hin.2.2 q' k' z u b (by omega) hq hk hzb hub
theorem OwnS.inn (h : OwnS w B v yss) : In v B w.heap.size := by
 obtain ⟨_, vs, hr, _⟩ := h
 exact hr.lt
theorem Below.stepS {C : Nat} {a w' : World} (h : Below C a w) (hg : w.grownBy w' v.ownBlock) (ho : OwnS w B v yss) (hBo : C ≤ B) (hB : C ≤ w.heap.size) : Below C a w' :=
 h.grown hg hB (fun k hk => by have := (ho.inn k hk).1; omega)
theorem OwnS.take (h : OwnS w B (.slice (some ⟨g, 0, none⟩) n c) yss) {m : Nat} (hm : m ≤ n) : OwnS w B (.slice (some ⟨g, 0, none⟩) m c) (yss.take m) := by
 have e := h.len
 subst e
 obtain ⟨hl, vs, ⟨h1, h3⟩, hin⟩ := h
 have hml : (yss.take m).length = m := by rw [List.length_take]; omega
 refine ⟨by rw [hml]; omega, vs.take m, ?_, by rw [List.length_take, hml, hin.1]; omega, fun i x hx => ?_, fun i j x y b hij hx hy hxb => ?_⟩
 · rw [hml]
   refine ⟨by rw [List.length_take, hin.1]; omega, .inr ?_⟩
   rcases h3 with ⟨e, _⟩ | ⟨g', cap, cur, e, hb, hg, hn, hcm, hs, ht⟩
   · cases e
   · injection e with e1 e2 e3
     injection e1 with e1
     injection e1 with e1
     subst e1
     subst e3
     refine ⟨g, c, cur, rfl, hb, hg, by omega, hcm, hs, ?_⟩
     rw [← ht, List.take_take]
     congr 1
     omega
 · have hi : i < m := by
     have := (List.getElem?_eq_some_iff.1 hx).1
     rw [List.length_take] at this
     omega
   rw [List.getElem?_take_of_lt hi] at hx
   rw [nthL_take hi]
   exact hin.2.1 i x hx
 · have lt : ∀ (q : Nat) (z : Value), (vs.take m)[q]? = some z → vs[q]? = some z := fun q z hz => by
     have hq : q < m := by
      have := (List.getElem?_eq_some_iff.1 hz).1
      rw [List.length_take] at this
      omega
     rwa [List.getElem?_take_of_lt hq] at hz
   exact hin.2.2 i j x y b hij (lt i x hx) (lt j y hy) hxb
end
end Go.Proofs.Ytgmgpcaahanmiaa
namespace Go.Proofs.Ytgmgpcaahanmiaa
open Go.RowKit
section
variable {w : World} {B : Nat} {v : Value} {xs ys : List Int}
theorem run_append_ints (hown : Own w B v xs) (ad : Option Addr) (m c : Nat) (hm : m = ys.length) (hr : Rd w ad ys) (hl : xs.length + ys.length ≤ 1073741824) (hB : B ≤ w.heap.size) (ty : TypeId) :
    ∃ v' w', (Builtin.append_ #[22, 22] ty #[v, .slice ad m c]).run Try.prog w = .ok v' w' ∧ Own w' B v' (xs ++ ys) ∧ w.grownBy w' v.ownBlock ∧ (v'.ownBlock = v.ownBlock ∨ v'.ownBlock = some w.heap.size) := by
 obtain ⟨i0, hi0, hz0, hz1, hz2⟩ := info_parts Try.info_i64
 rcases Nat.eq_zero_or_pos ys.length with h0 | h0
 · have hy : ys = [] := List.eq_nil_of_length_eq_zero h0
   subst hy
   simp only [List.length_nil] at hm
   subst hm
   refine ⟨v, w, ?_, by simpa using hown, World.grownBy.refl w _, .inl rfl⟩
   rcases hown.2.2 with ⟨rfl, h0⟩ | ⟨g, cap, cur, rfl, _, _, hnc, _⟩
   · cases ad <;> simp [Builtin.append_, run_underlying Try.underlying22, sizeOf, typeInfo, hi0, Builtin.lenOf, Builtin.firstCells, loadCells, loadCellsFrom]
   · cases ad <;> simp [Builtin.append_, run_underlying Try.underlying22, sizeOf, typeInfo, hi0, Builtin.lenOf, Builtin.firstCells, hnc, storeCells, loadCells, loadCellsFrom]
 · obtain ⟨b, off, rfl, _, hc⟩ := hr.at_ h0
   obtain ⟨v', w', h1, h2, h3, _, h5⟩ := run_append_own_at (P := Try.prog) w B 22 ty 2 i0 (.int .i64 0) 1 8 Try.underlying22 hi0 hz0 hz1 hz2 rfl (by omega) v xs.length (xs.map (Value.int .i64)) hown.2 ⟨b, off, none⟩ m c (ys.map (Value.int .i64)) (by simp [hm])
    (fun j u hu => by
     have hj : j < ys.length := by
      have := (List.getElem?_eq_some_iff.1 hu).1
      simpa using this
     rw [Addr.add_lit, hc j hj, ← hu, List.getElem?_map, List.getElem?_eq_getElem hj, nth_lt hj]; rfl)
    (ints_oneCell _ _) (by unfold maxLen; omega) (by omega) hB
   exact ⟨v', w', h1, ⟨by simpa using hl, by rw [List.map_append, List.length_append, ← hm]; exact h2⟩, h3, h5⟩
theorem wp_append_ints {o : Oper} {a : Act} {K : Act → World → Prop} {Q : Exit → Act → World → Prop} (s x : Operand)
    (ho : o.op = .call { callee := .builtin .append, args := #[s, x], argTypes := #[22, 22] })
    (hs : a.eval s = v) (hown : Own w B v xs) (ad : Option Addr) (m c : Nat) (hx : a.eval x = .slice ad m c) (hm : m = ys.length) (hr : Rd w ad ys) (hl : xs.length + ys.length ≤ 1073741824) (hB : B ≤ w.heap.size)
    (h : ∀ v' w', Own w' B v' (xs ++ ys) → w.grownBy w' v.ownBlock → (v'.ownBlock = v.ownBlock ∨ v'.ownBlock = some w.heap.size) → K (a.put o.dst v') w') : Oper.wp Try.prog o a w K Q := by
 obtain ⟨v', w', hrun, h2, h3, h4⟩ := run_append_ints hown ad m c hm hr hl hB o.type
 unfold Oper.wp execOp
 simp only [ho, resolve, invoke, builtin, Sem.run_bind, Sem.run_pure, Result.andThen_ok, List.map_toArray, List.map_cons, List.map_nil, hs, hx, hrun]
 exact h v' w' h2 h3 h4
theorem step_append_ints {ops : Array Oper} {o : Oper} {a : Act} {K : Act → World → Prop} {Q : Exit → Act → World → Prop} {E : Prop} (hgd : o.guard = none) (s x : Operand)
    (ho : o.op = .call { callee := .builtin .append, args := #[s, x], argTypes := #[22, 22] })
    (hs : a.eval s = v) (hown : Own w B v xs) (ad : Option Addr) (m c : Nat) (hx : a.eval x = .slice ad m c) (hm : m = ys.length) (hr : Rd w ad ys) (hl : xs.length + ys.length ≤ 1073741824) (hB : B ≤ w.heap.size)
    (h : ∀ v' w', Own w' B v' (xs ++ ys) → w.grownBy w' v.ownBlock → (v'.ownBlock = v.ownBlock ∨ v'.ownBlock = some w.heap.size) → K (a.put o.dst v') w') :
    if Region.wanted o (yielded ops a.tmps) = true then Oper.wp Try.prog o a w K Q else E := by
 have hw : Region.wanted o (yielded ops a.tmps) = true := by simp [Region.wanted, hgd]
 rw [if_pos hw]
 exact wp_append_ints s x ho hs hown ad m c hx hm hr hl hB h
end
end Go.Proofs.Ytgmgpcaahanmiaa
namespace Go.Proofs.Ytgmgpcaahanmiaa
open Go.RowKit
theorem OwnSH.belw {w w' : World} {B hi : Nat} {v : Value} {xss : List (List Int)} (h : OwnSH w B hi v xss) (hb : Below w.heap.size w w') (hh : hi ≤ w.heap.size) : OwnSH w' B hi v xss := h.kp (Kp.below hb hh)
theorem copyLists_any (a : Option Addr) (c : Nat) (xss : List (List Int)) (w : World) (hx : RdS w a xss) :
    Calls Try.prog 138 #[.slice a xss.length c] w fun e w' => ∃ v, e = .returned v ∧ OwnS w' w.heap.size v xss ∧ Below w.heap.size w w' := by
 have hxl := hx.len
 go_enter Try.func138, Try.ntmps138
 go_wp2
 go_loopw [3, 8] (fun v iv wr => ∃ (k : Nat), iv = .int .i64 k ∧ k ≤ xss.length ∧ Hid (OwnS wr w.heap.size v (xss.take k)) ∧ Below w.heap.size w wr) (fun _ iv _ => xss.length - (intOf iv).toNat)
 case atStart => exact ⟨0, rfl, Nat.zero_le _, OwnS.nil _ _, Below.refl _ _⟩
 case round =>
  obtain ⟨k, rfl, hk, ho, hb⟩ := hrel
  have hsz := hb.size
  by_cases hkl : k < xss.length
  · obtain ⟨b1, o1, rfl, _, hc⟩ := (hx.below hb).at_ (by omega)
    obtain ⟨ai, ci, h1, hr⟩ := hc k hkl
    have htk := take_nthL hkl
    have htl : (xss.take k).length = k := by rw [List.length_take]; omega
    generalize nthL xss k = row at h1 hr htk
    have HTK := Lib.hid htk
    have HTL := Lib.hid htl
    clear hc htk htl
    go_wp2_with fail
    refine (clone_any ai ci row wr hr).mono ?_
    rintro e w1 ⟨v1, rfl, o1, b1⟩
    obtain ⟨a1, c1, rfl, _, _⟩ := o1.form
    have hH := ho.out.toH.belw b1 (Nat.le_refl _)
    have hs1 := b1.size
    have hb1 := hb.trans (b1.mono hsz)
    go_wp2_with (at_builtin; refine wpList_append_row rfl (.tmp 12) (.tmp 15) rfl (v := u3) rfl (hH.belw ((Below.refl _ _).alloc (Nat.le_refl _) _) hs1) _ rfl ((Blk.new w1 22 #[.slice a1 row.length c1] rfl).cell 0) (o1.alloc _) hsz (by simp; omega) (by rw [HTL.out]; omega) ?_; intro v2 w2 o2 g2 _)
    go_roundw
    case rel =>
     refine ⟨k + 1, by go_num, by omega, ?_, Below.stepS (hb1.alloc (by omega) _) g2 (hH.belw ((Below.refl _ _).alloc (Nat.le_refl _) _) hs1).own (Nat.le_refl _) (by simp; omega)⟩
     show OwnS _ _ _ _
     rw [HTK.out]
     exact o2
    case measure => simp only [intOf]; omega
  · have hke : k = xss.length := by omega
    have HE := Lib.hid hke
    clear hke
    go_wp2
    go_ret
    exact ⟨_, rfl, by have o := ho.out; rw [HE.out, List.take_length] at o; exact o, hb⟩
theorem l17Own_any (a : Option Addr) (c : Nat) (xss : List (List Int)) (w : World) (hx : RdS w a xss) :
    Calls Try.prog 206 #[.slice a xss.length c] w fun e w' => ∃ v, e = .returned v ∧ OwnS w' w.heap.size v xss ∧ Below w.heap.size w w' := by
 have hxl := hx.len
 go_enter Try.func206, Try.ntmps206
 go_wp2
 go_loopw [3, 4] (fun v iv wr => ∃ (k : Nat), iv = .int .i64 k ∧ k ≤ xss.length ∧ Hid (OwnS wr w.heap.size v (xss.take k)) ∧ Below w.heap.size w wr) (fun _ iv _ => xss.length - (intOf iv).toNat)
 case atStart => exact ⟨0, rfl, Nat.zero_le _, OwnS.empty w (Nat.le_refl _), (Below.refl _ _).alloc (Nat.le_refl _) _⟩
 case round =>
  obtain ⟨k, rfl, hk, ho, hb⟩ := hrel
  have hsz := hb.size
  by_cases hkl : k < xss.length
  · obtain ⟨b1, o1, rfl, _, hc⟩ := (hx.below hb).at_ (by omega)
    obtain ⟨ai, ci, h1, hr⟩ := hc k hkl
    have htk := take_nthL hkl
    have htl : (xss.take k).length = k := by rw [List.length_take]; omega
    generalize nthL xss k = row at h1 hr htk
    have HTK := Lib.hid htk
    have HTL := Lib.hid htl
    clear hc htk htl
    go_wp2_with fail
    refine (l00Own_any ai ci row wr hr).mono ?_
    rintro e w1 ⟨v1, rfl, o1, b1⟩
    obtain ⟨a1, c1, rfl, _, _⟩ := o1.form
    have hH := ho.out.toH.belw b1 (Nat.le_refl _)
    have hs1 := b1.size
    have hb1 := hb.trans (b1.mono hsz)
    go_wp2_with (at_builtin; refine wpList_append_row rfl (.tmp 12) (.tmp 18) rfl (v := u3) rfl (hH.belw ((Below.refl _ _).alloc (Nat.le_refl _) _) hs1) _ rfl ((Blk.new w1 22 #[.slice a1 row.length c1] rfl).cell 0) (o1.alloc _) hsz (by simp; omega) (by rw [HTL.out]; omega) ?_; intro v2 w2 o2 g2 _)
    go_roundw
    case rel =>
     refine ⟨k + 1, by go_num, by omega, ?_, Below.stepS (hb1.alloc (by omega) _) g2 (hH.belw ((Below.refl _ _).alloc (Nat.le_refl _) _) hs1).own (Nat.le_refl _) (by simp; omega)⟩
     show OwnS _ _ _ _
     rw [HTK.out]
     exact o2
    case measure => simp only [intOf]; omega
  · have hke : k = xss.length := by omega
    have HE := Lib.hid hke
    clear hke
    go_wp2
    go_ret
    exact ⟨_, rfl, by have o := ho.out; rw [HE.out, List.take_length] at o; exact o, hb⟩
end Go.Proofs.Ytgmgpcaahanmiaa
namespace Go.Proofs.Ytgmgpcaahanmiaa
open Go.RowKit
def OwnSQ (w : World) (B : Nat) (v : Value) (xss : List (List Int)) (Q : Value → Prop) : Prop :=
 xss.length ≤ 1073741824 ∧ ∃ vs : List Value, w.ownsRow B 22 1 v xss.length vs ∧ Inner w B vs xss ∧ ∀ (i : Nat) (x : Value), vs[i]? = some x → Q x
section
variable {w w' : World} {B hi g n c : Nat} {v : Value} {yss : List (List Int)} {Q Q' : Value → Prop}
theorem OwnSQ.own (h : OwnSQ w B v yss Q) : OwnS w B v yss := by
 obtain ⟨hl, vs, hr, hin, _⟩ := h
 exact ⟨hl, vs, hr, hin⟩
theorem OwnSQ.imp (h : OwnSQ w B v yss Q) (hq : ∀ x, (∀ k, x.ownBlock = some k → k < w.heap.size) → Q x → Q' x) : OwnSQ w B v yss Q' := by
 obtain ⟨hl, vs, hr, hin, hQ⟩ := h
 exact ⟨hl, vs, hr, hin, fun i x hx => hq x (fun k hk => ((hin.2.1 i x hx).lt k hk).2) (hQ i x hx)⟩
theorem OwnS.toQ (h : OwnS w B v yss) (hq : ∀ x, (∀ k, x.ownBlock = some k → B ≤ k ∧ k < w.heap.size) → Q x) : OwnSQ w B v yss Q := by
 obtain ⟨hl, vs, hr, hin⟩ := h
 exact ⟨hl, vs, hr, hin, fun i x hx => hq x (fun k hk => (hin.2.1 i x hx).lt k hk)⟩
theorem OwnSQ.below (h : OwnSQ w B v yss Q) (hb : Below w.heap.size w w') : OwnSQ w' B v yss Q := by
 obtain ⟨hl, vs, hr, hin, hQ⟩ := h
 exact ⟨hl, vs, ownsRow_below hr hb (Nat.le_refl _), hin.below hb (Nat.le_refl _), hQ⟩
theorem OwnSQ.grow (h : OwnSQ w B v yss Q) {u : Value} {B' : Nat} {us : List Int} (hu : Own w B' u us) (hg : w.grownBy w' u.ownBlock) (hq : ∀ x, Q x → ∀ k, x.ownBlock = some k → u.ownBlock ≠ some k) : OwnSQ w' B v yss Q := by
 obtain ⟨hl, vs, hr, hin, hQ⟩ := h
 refine ⟨hl, vs, hr.kept hg ?_, ⟨hin.1, fun i x hx => (hin.2.1 i x hx).grow hg ?_, hin.2.2⟩, hQ⟩
 · rcases hub : u.ownBlock with _ | k
   · rcases hv : v.ownBlock with _ | k
     · exact .inl rfl
     · exact .inr (by simp)
   · refine .inr fun e => ?_
     exact Own.notSliceBlock hr hu k hub e
 · rcases hxb : x.ownBlock with _ | k
   · exact .inl rfl
   · exact .inr fun e => hq x (hQ i x hx) k hxb e.symm
theorem OwnSQ.row (h : OwnSQ w B v yss Q) {i : Nat} (hi : i < yss.length) :
    ∃ a c, Own w B (.slice a (nthL yss i).length c) (nthL yss i) ∧ Q (.slice a (nthL yss i).length c) ∧
     (∀ b off m d, v = .slice (some ⟨b, off, none⟩) m d → w.cell? ⟨b, off + i, none⟩ = some (.slice a (nthL yss i).length c)) ∧
     (∀ w' ys, Own w' B (.slice a (nthL yss i).length c) ys → ys.length = (nthL yss i).length → w.grownBy w' (Value.ownBlock (.slice a (nthL yss i).length c)) → OwnSQ w' B v (yss.set i ys) Q) ∧
     (∀ j a' c', j < yss.length → j ≠ i → (∀ b off m d, v = .slice (some ⟨b, off, none⟩) m d → w.cell? ⟨b, off + j, none⟩ = some (.slice a' (nthL yss j).length c')) → v.ownBlock ≠ none → ∀ k, Value.ownBlock (.slice a' (nthL yss j).length c') = some k → Value.ownBlock (.slice a (nthL yss i).length c) ≠ some k) := by
 obtain ⟨hl, vs, hr, hin, hQ⟩ := h
 have hil : i < vs.length := by rw [hin.1]; exact hi
 have hgi := List.getElem?_eq_getElem hil
 have ho := hin.2.1 i _ hgi
 obtain ⟨a, c, e, _, _⟩ := ho.form
 rw [e] at ho hgi
 have hne : ∀ k, Value.ownBlock (.slice a (nthL yss i).length c) = some k → v.ownBlock ≠ some k := Own.notSliceBlock hr ho
 have cellv : ∀ (q : Nat) (b off m d : Nat), q < vs.length → v = .slice (some ⟨b, off, none⟩) m d → w.cell? ⟨b, off + q, none⟩ = vs[q]? := by
  intro q b off m d hq hvv
  have hr2 := hr
  rcases hr.2 with ⟨rfl, _⟩ | ⟨g, cap, cur, rfl, _⟩
  · injection hvv with h0 _ _; cases h0
  · injection hvv with h0 _ _
    injection h0 with h0
    injection h0 with h1 h2
    subst h1; subst h2
    rw [Nat.zero_add]
    exact hr2.cellAt q (by have := hin.1; omega)
 refine ⟨a, c, ho, hQ i _ hgi, fun b off m d hvv => by rw [cellv i b off m d hil hvv, hgi], ?_, ?_⟩
 · intro w' ys ho' hyl hg
   refine ⟨by simpa using hl, vs, ?_, ⟨by simpa using hin.1, fun j x hx => ?_, hin.2.2⟩, hQ⟩
   · rw [List.length_set]
     refine hr.kept hg ?_
     rcases hx : v.ownBlock with _ | k
     · exact .inl rfl
     · exact .inr fun e2 => hne k e2.symm hx
   · by_cases hj : j = i
     · subst hj
       rw [hgi] at hx
       injection hx with hx
       subst hx
       rw [nthL_set_same hi]
       exact ho'
     · rw [nthL_set_ne (Ne.symm hj)]
       refine (hin.2.1 j x hx).grow hg ?_
       rcases hxb : x.ownBlock with _ | k
       · exact .inl rfl
       · exact .inr fun e2 => hin.2.2 i j _ _ k (Ne.symm hj) hgi hx e2.symm hxb
 · intro j a' c' hj hji hcell hv0 k hk hk2
   have hjl : j < vs.length := by rw [hin.1]; exact hj
   rcases hr.2 with ⟨rfl, h0⟩ | ⟨g, cap, cur, rfl, _⟩
   · exact hv0 rfl
   · have h1 := hcell g 0 _ _ rfl
     rw [cellv j g 0 _ _ hjl rfl] at h1
     exact hin.2.2 i j _ _ k (Ne.symm hji) hgi h1 hk2 hk
theorem OwnSQ.put (h : OwnSQ w B (.slice (some ⟨g, 0, none⟩) n c) yss Q) {r : Value} {ys : List Int} (hr : Own w hi r ys) (hB : B ≤ hi)
    (hlow : ∀ x, Q x → ∀ k, x.ownBlock = some k → k < hi) (hq : Q' r) (hQQ : ∀ x, Q x → Q' x) {j : Nat} (hj : j < yss.length) :
    OwnSQ (w.setCell ⟨g, j, none⟩ r) B (.slice (some ⟨g, 0, none⟩) n c) (yss.set j ys) Q' ∧ w.grownBy (w.setCell ⟨g, j, none⟩ r) (some g) := by
 have e := h.own.len
 subst e
 obtain ⟨hl, vs, ho, hin, hQ⟩ := h
 obtain ⟨h1, h2⟩ := ho.stored j r
 have row : ∀ (x : Value) (B2 : Nat) (xs : List Int), Own w B2 x xs → Own (w.setCell ⟨g, j, none⟩ r) B2 x xs := fun x B2 xs hx => row_grow ho h2 hx
 have cas : ∀ (q : Nat) (z : Value), (vs.set j r)[q]? = some z → (q = j ∧ z = r) ∨ (q ≠ j ∧ vs[q]? = some z) := fun q z hz => by
  by_cases e : q = j
  · subst e
    rw [List.getElem?_set_self (by rw [hin.1]; exact hj)] at hz
    injection hz with hz
    exact .inl ⟨rfl, hz.symm⟩
  · rw [List.getElem?_set_ne (Ne.symm e)] at hz
    exact .inr ⟨e, hz⟩
 refine ⟨⟨by simpa using hl, vs.set j r, by rw [List.length_set]; exact h1, ⟨by simp [hin.1], fun i x hx => ?_, fun i k x y b hik hx hy hxb hyb => ?_⟩, fun i x hx => ?_⟩, h2⟩
 · rcases cas i x hx with ⟨rfl, rfl⟩ | ⟨e1, e2⟩
   · rw [nthL_set_same hj]; exact (row _ _ _ hr).mono hB
   · rw [nthL_set_ne (Ne.symm e1)]; exact row _ _ _ (hin.2.1 i x e2)
 · rcases cas i x hx with ⟨e1, e2⟩ | ⟨e1, e2⟩ <;> rcases cas k y hy with ⟨f1, f2⟩ | ⟨f1, f2⟩
   · omega
   · subst e2
     have a1 := (hr.lt b hxb).1
     have a2 := hlow y (hQ k y f2) b hyb
     omega
   · subst f2
     have a1 := (hr.lt b hyb).1
     have a2 := hlow x (hQ i x e2) b hxb
     omega
   · exact hin.2.2 i k x y b hik e2 f2 hxb hyb
 · rcases cas i x hx with ⟨rfl, rfl⟩ | ⟨e1, e2⟩
   · exact hq
   · exact hQQ x (hQ i x e2)
theorem OwnSQ.put2 (h : OwnSQ w B (.slice (some ⟨g, 0, none⟩) n c) yss Q) {r y : Value} {ys : List Int} (hr : Own w hi r ys) (hB : B ≤ hi)
    (hlow : ∀ x, Q x → ∀ k, x.ownBlock = some k → k < hi) (hq : Q' r) (hQQ : ∀ x, Q x → Q' x) {i t : Nat} (hi' : i < yss.length) (ht : t < yss.length) (hy : w.cell? ⟨g, t, none⟩ = some y) :
    OwnSQ ((w.setCell ⟨g, i, none⟩ y).setCell ⟨g, t, none⟩ r) B (.slice (some ⟨g, 0, none⟩) n c) ((yss.set i (nthL yss t)).set t ys) Q' ∧ w.grownBy ((w.setCell ⟨g, i, none⟩ y).setCell ⟨g, t, none⟩ r) (some g) := by
 have e := h.own.len
 subst e
 obtain ⟨hl, vs, ho, hin, hQ⟩ := h
 have vy : vs[t]? = some y := by rw [← ho.cellAt t (by omega)]; exact hy
 obtain ⟨h1, h2⟩ := ho.stored i y
 obtain ⟨h3, h4⟩ := h1.stored t r
 have row : ∀ (z : Value) (B2 : Nat) (xs : List Int), Own w B2 z xs → Own ((w.setCell ⟨g, i, none⟩ y).setCell ⟨g, t, none⟩ r) B2 z xs := fun z B2 xs hz => row_grow h1 h4 (row_grow ho h2 hz)
 have hil : i < vs.length := by rw [hin.1]; exact hi'
 have htl : t < vs.length := by rw [hin.1]; exact ht
 have cas : ∀ (q : Nat) (z : Value), ((vs.set i y).set t r)[q]? = some z → (q = t ∧ z = r) ∨ ∃ q', vs[q']? = some z ∧ q ≠ t ∧ ((q = i ∧ q' = t) ∨ (q ≠ i ∧ q' = q)) := fun q z hz => by
  by_cases e : q = t
  · subst e
    rw [List.getElem?_set_self (by rw [List.length_set]; exact htl)] at hz
    injection hz with hz
    exact .inl ⟨rfl, hz.symm⟩
  · rw [List.getElem?_set_ne (Ne.symm e)] at hz
    by_cases e2 : q = i
    · subst e2
      rw [List.getElem?_set_self hil] at hz
      injection hz with hz
      subst hz
      exact .inr ⟨t, vy, e, .inl ⟨rfl, rfl⟩⟩
    · rw [List.getElem?_set_ne (Ne.symm e2)] at hz
      exact .inr ⟨q, hz, e, .inr ⟨e2, rfl⟩⟩
 refine ⟨⟨by simpa using hl, (vs.set i y).set t r, by simpa using h3, ⟨by simp [hin.1], fun q z hz => ?_, fun q k z u b hqk hz hu hzb hub => ?_⟩, fun q z hz => ?_⟩, grown_trans_row h2 h4⟩
 · rcases cas q z hz with ⟨rfl, rfl⟩ | ⟨q', hq, hne, hc⟩
   · rw [nthL_set_same (by rw [List.length_set]; exact ht)]
     exact (row _ _ _ hr).mono hB
   · have o := row _ _ _ (hin.2.1 q' z hq)
     rcases hc with ⟨rfl, rfl⟩ | ⟨h1, rfl⟩
     · rw [nthL_set_ne (Ne.symm hne), nthL_set_same hi']; exact o
     · rw [nthL_set_ne (Ne.symm hne), nthL_set_ne (Ne.symm h1)]; exact o
 · rcases cas q z hz with ⟨rfl, rfl⟩ | ⟨q', hqv, hne, hc⟩ <;> rcases cas k u hu with ⟨rfl, rfl⟩ | ⟨k', hk, hke, hd⟩
   · omega
   · have a1 := (hr.lt b hzb).1
     have a2 := hlow u (hQ k' u hk) b hub
     omega
   · have a1 := (hr.lt b hub).1
     have a2 := hlow z (hQ q' z hqv) b hzb
     omega
   · exact hin.2.2 q' k' z u b (by omega) hqv hk hzb hub
 · rcases cas q z hz with ⟨rfl, rfl⟩ | ⟨q', hq', _, _⟩
   · exact hq
   · exact hQQ z (hQ q' z hq')
theorem OwnSQ.swap (h : OwnSQ w B (.slice (some ⟨g, 0, none⟩) n c) yss Q) {i j : Nat} (hi : i < yss.length) (hj : j < yss.length) (hij : i ≠ j) {x y : Value} (hx : w.cell? ⟨g, i, none⟩ = some x) (hy : w.cell? ⟨g, j, none⟩ = some y) :
    OwnSQ ((w.setCell ⟨g, i, none⟩ y).setCell ⟨g, j, none⟩ x) B (.slice (some ⟨g, 0, none⟩) n c) ((yss.set i (nthL yss j)).set j (nthL yss i)) Q ∧ w.grownBy ((w.setCell ⟨g, i, none⟩ y).setCell ⟨g, j, none⟩ x) (some g) := by
 have e := h.own.len
 subst e
 obtain ⟨hl, vs, ho, hin, hQ⟩ := h
 have vx : vs[i]? = some x := by rw [← ho.cellAt i (by omega)]; exact hx
 have vy : vs[j]? = some y := by rw [← ho.cellAt j (by omega)]; exact hy
 obtain ⟨h1, h2⟩ := ho.stored i y
 obtain ⟨h3, h4⟩ := h1.stored j x
 have row : ∀ (z : Value) (B2 : Nat) (xs : List Int), Own w B2 z xs → Own ((w.setCell ⟨g, i, none⟩ y).setCell ⟨g, j, none⟩ x) B2 z xs := fun z B2 xs hz => row_grow h1 h4 (row_grow ho h2 hz)
 have hil : i < vs.length := by rw [hin.1]; exact hi
 have hjl : j < vs.length := by rw [hin.1]; exact hj
 have cas : ∀ (q : Nat) (z : Value), ((vs.set i y).set j x)[q]? = some z → ∃ q', vs[q']? = some z ∧ ((q = j ∧ q' = i) ∨ (q = i ∧ q ≠ j ∧ q' = j) ∨ (q ≠ i ∧ q ≠ j ∧ q' = q)) := fun q z hz => by
  by_cases e : q = j
  · subst e
    rw [List.getElem?_set_self (by rw [List.length_set]; exact hjl)] at hz
    injection hz with hz
    subst hz
    exact ⟨i, vx, .inl ⟨rfl, rfl⟩⟩
  · rw [List.getElem?_set_ne (Ne.symm e)] at hz
    by_cases e2 : q = i
    · subst e2
      rw [List.getElem?_set_self hil] at hz
      injection hz with hz
      subst hz
      exact ⟨j, vy, .inr (.inl ⟨rfl, e, rfl⟩)⟩
    · rw [List.getElem?_set_ne (Ne.symm e2)] at hz
      exact ⟨q, hz, .inr (.inr ⟨e2, e, rfl⟩)⟩
 refine ⟨⟨by simpa using hl, (vs.set i y).set j x, by simpa using h3, ⟨by simp [hin.1], fun q z hz => ?_, fun q k z u b hqk hz hu hzb hub => ?_⟩, fun q z hz => ?_⟩, grown_trans_row h2 h4⟩
 · obtain ⟨q', hq, hc⟩ := cas q z hz
   have o := row _ _ _ (hin.2.1 q' z hq)
   rcases hc with ⟨rfl, rfl⟩ | ⟨rfl, hne, rfl⟩ | ⟨h1, h2, rfl⟩
   · rw [nthL_set_same (by rw [List.length_set]; exact hj)]; exact o
   · rw [nthL_set_ne (Ne.symm hne), nthL_set_same hi]; exact o
   · rw [nthL_set_ne (Ne.symm h2), nthL_set_ne (Ne.symm h1)]; exact o
 · obtain ⟨q', hq, hc⟩ := cas q z hz
   obtain ⟨k', hk, hd⟩ := cas k u hu
   exact hin.2.2 q' k' z u b (by omega) hq hk hzb hub
 · obtain ⟨q', hq, _⟩ := cas q z hz
   exact hQ q' z hq
end
end Go.Proofs.Ytgmgpcaahanmiaa
namespace Go.Proofs.Ytgmgpcaahanmiaa
open Go.RowKit
theorem l19Field_any (q : Int) (w : World) : Calls Try.prog 161 #[.int .i64 q] w fun e w' => e = .returned (.bool (isField q)) ∧ w = w' := by
 have hc := l03Split_any q w
 unfold isField
 generalize hs : (split q).1 = s at hc
 have HC := hide hc
 clear hc hs
 by_cases h0 : 0 < s
 · go_enter Try.func161, Try.ntmps161
   go_wp2_with fail
   refine (unhide HC).mono ?_
   rintro e w1 ⟨rfl, rfl⟩
   go_wp2
   go_ret
   exact ⟨ret_bool (by simp [h0]), rfl⟩
 · go_enter Try.func161, Try.ntmps161
   go_wp2_with fail
   refine (unhide HC).mono ?_
   rintro e w1 ⟨rfl, rfl⟩
   go_wp2
   go_ret
   exact ⟨ret_bool (by simp [show ¬ 0 < s by omega]), rfl⟩
theorem mkF_code (q : Int) : (mkF q).2.2.2 = if isField q then 0 else 2 := by unfold mkF; split <;> rfl
theorem mkF_ok {q : Int} (h : isField q = true) : (mkF q).2.2.2 = 0 := by rw [mkF_code, if_pos h]
theorem mkF_bad {q : Int} (h : isField q = false) : (mkF q).2.2.2 = 2 := by rw [mkF_code, h]; rfl
end Go.Proofs.Ytgmgpcaahanmiaa
namespace Go.Proofs.Ytgmgpcaahanmiaa
open Go.RowKit
def LIM : Int := 1000000000000
def powS (b : Int) (m : Nat) : Int := if capTo b LIM m ≤ LIM then capTo b LIM m else -1
theorem powS_yes {b : Int} {m : Nat} (h : capTo b LIM m ≤ LIM) : powS b m = capTo b LIM m := if_pos h
theorem powS_no {b : Int} {m : Nat} (h : ¬ capTo b LIM m ≤ LIM) : powS b m = -1 := if_neg h
theorem capTo_anti {b l : Int} {j k : Nat} (hjk : j ≤ k) (h : capTo b l k ≤ l) : capTo b l j ≤ l := by
 rcases Int.lt_or_le l (capTo b l j) with h1 | h1
 · have := capTo_stop (b := b) (l := l) (k := j) (by omega) k hjk
   omega
 · exact h1
theorem l19Power_any (b m : Int) (w : World) (hb : 0 ≤ b) (hb2 : b ≤ 1000) (hm : m ≤ 9223372036854775807) :
    Calls Try.prog 163 #[.int .i64 b, .int .i64 m] w fun e w' => e = .returned (.int .i64 (powS b m.toNat)) ∧ w = w' := by
 go_enter Try.func163, Try.ntmps163
 go_wp2
 go_loop [5, 6] (fun ov iv => ∃ (i : Nat) (o : Int), iv = .int .i64 i ∧ ov = .int .i64 o ∧ 0 ≤ o ∧ o ≤ 1000000000000 ∧ Hid (i ≤ m.toNat) ∧ (i : Int) ≤ 9223372036854775807 ∧ Hid (capTo b LIM i = o)) (fun _ iv => (m - intOf iv).toNat)
 case atStart => exact ⟨0, 1, rfl, rfl, by omega, by omega, Nat.zero_le _, by omega, rfl⟩
 case round =>
  obtain ⟨i, o, rfl, rfl, ho0, ho1, hi, hi2, hc⟩ := hrel
  by_cases him : (i : Int) < m
  · have hp0 : 0 ≤ o * b := Int.mul_nonneg ho0 hb
    have hp1 : o * b ≤ 1000000000000000 := by
     have := Int.mul_le_mul ho1 hb2 hb (by omega)
     omega
    have hc1 : capTo b LIM (i + 1) = o * b := by rw [capTo_go (by rw [hc.out]; unfold LIM; exact ho1), hc.out]
    have HC := Lib.hid hc1
    clear hc1 hc
    by_cases hl : o * b ≤ 1000000000000
    · go_wp2
      go_round
      case rel => exact ⟨i + 1, o * b, by go_num, rfl, hp0, hl, show _ ≤ _ by omega, by omega, HC⟩
      case measure => simp only [intOf]; omega
    · go_wp2
      go_ret
      have hst := capTo_stop (b := b) (l := LIM) (k := i + 1) (by rw [HC.out]; unfold LIM; omega) m.toNat (by have := hi.out; omega)
      refine ⟨ret_int ?_, rfl⟩
      rw [powS_no]
      rw [hst, HC.out]
      unfold LIM
      omega
  · go_wp2
    go_ret
    have e : i = m.toNat := by have := hi.out; omega
    refine ⟨ret_int ?_, rfl⟩
    rw [← e, powS_yes (by rw [hc.out]; unfold LIM; exact ho1), hc.out]
def isSpaceB (q n : Int) : Bool := isField q && (inB n 1 32 && decide (capTo q LIM n.toNat ≤ LIM))
theorem isSpace_any (q n : Int) (w : World) :
    Calls Try.prog 147 #[.int .i64 q, .int .i64 n] w fun e w' => e = .returned (.bool (isSpaceB q n)) ∧ Below w.heap.size w w' := by
 generalize hR : isSpaceB q n = R
 have HR := Lib.hid hR
 clear hR
 go_enter Try.func147, Try.ntmps147
 go_wp2_with fail
 refine (MakeField_any q w).mono ?_
 rintro e w1 ⟨v1, rfl, o1, b1⟩
 obtain ⟨a1, c1, rfl, _, _⟩ := o1.form
 have s1 := b1.size
 have hb := b1.alloc s1 (.cells #[.int .i64 (mkF q).1, .int .i64 (mkF q).2.1, .slice a1 (mkF q).2.2.1.length c1] 34)
 rcases hf : isField q with _ | _
 · rw [mkF_bad hf]
   have HF := Lib.hid hf
   clear hf
   go_wp2
   go_ret
   exact ⟨ret_bool (by rw [← HR.out, isSpaceB, HF.out]; rfl), hb⟩
 · rw [mkF_ok hf]
   obtain ⟨hq2, hq64, _⟩ := isField_size hf
   have HF := Lib.hid hf
   clear hf
   go_wp2_with fail
   refine (within_any n 1 32 _).mono ?_
   rintro e w2 ⟨rfl, rfl⟩
   rcases hk : inB n 1 32 with _ | _
   · have HK := Lib.hid hk
     clear hk
     go_wp2
     go_ret
     exact ⟨ret_bool (by rw [← HR.out, isSpaceB, HF.out, HK.out]; rfl), hb⟩
   · obtain ⟨hk1, hk8⟩ := inB_true.1 hk
     have HK := Lib.hid hk
     clear hk
     go_wp2_with fail
     refine (powerUpTo_any q n 1000000000000 _ (by omega) (by omega) (by omega) (by omega) (by omega)).mono ?_
     rintro e w2 ⟨rfl, rfl⟩
     have hr : R = decide (capTo q LIM n.toNat ≤ LIM) := by rw [← HR.out, isSpaceB, HF.out, HK.out]; rfl
     have HRR := Lib.hid hr
     clear hr
     by_cases hl : capTo q 1000000000000 n.toNat ≤ 1000000000000
     · go_wp2
       go_ret
       exact ⟨ret_bool (by rw [HRR.out]; unfold LIM; simp [hl]), hb⟩
     · go_wp2
       go_ret
       exact ⟨ret_bool (by rw [HRR.out]; unfold LIM; simp), hb⟩
theorem isSpaceB_true {q n : Int} (h : isSpaceB q n = true) : isField q = true ∧ 1 ≤ n ∧ n ≤ 32 ∧ capTo q LIM n.toNat ≤ LIM := by
 simp only [isSpaceB, Bool.and_eq_true, decide_eq_true_eq] at h
 obtain ⟨h1, h2, h3⟩ := h
 obtain ⟨h4, h5⟩ := inB_true.1 h2
 exact ⟨h1, h4, h5, h3⟩
end Go.Proofs.Ytgmgpcaahanmiaa
namespace Go.Proofs.Ytgmgpcaahanmiaa
open Go.RowKit
theorem Blk.grown {w w' : World} {g : Nat} {t : TypeId} {cs : Array Value} {row : Option Nat} (h : Blk w g t cs) (hg : w.grownBy w' row) (hne : row ≠ some g) : Blk w' g t cs := (hg.block g h.lt (Ne.symm hne)).trans h
end Go.Proofs.Ytgmgpcaahanmiaa
namespace Go.Proofs.Ytgmgpcaahanmiaa
open Go.RowKit
section
variable {w : World} {B hi : Nat} {v : Value} {xss : List (List Int)} {xs : List Int} {ar : Option Addr} {cr : Nat}
theorem run_append_read (hown : OwnSH w B hi v xss) (g1 : Nat) (hc : w.cell? ⟨g1, 0, none⟩ = some (.slice ar xs.length cr)) (hr : Rd w ar xs) (hrB : ∀ p, ar = some p → p.block < B) (hB : B ≤ w.heap.size) (hl : xss.length + 1 ≤ 1073741824) (ty : TypeId) :
    ∃ a' c' w', (Builtin.append_ #[35, 35] ty #[v, .slice (some ⟨g1, 0, none⟩) 1 1]).run Try.prog w = .ok (.slice a' (xss ++ [xs]).length c') w' ∧ RdS w' a' (xss ++ [xs]) ∧ Below B w w' := by
 obtain ⟨i0, hi0, hz0, hz1, hz2⟩ := info_parts Try.info_row
 obtain ⟨hxl, vs, hrow, hin, hv, hb⟩ := hown
 have hvB : ∀ k, v.ownBlock = some k → B ≤ k := fun k hk => (hv k hk).1
 obtain ⟨v', w', h1, h2, h3, _, h5⟩ := run_append_own_at (P := Try.prog) w B 35 ty 22 i0 (.slice none 0 0) 1 24 Try.underlying35 hi0 hz0 hz1 hz2 rfl (by omega) v xss.length vs hrow ⟨g1, 0, none⟩ 1 1 [.slice ar xs.length cr] rfl
  (fun j u hu => by
   have hj := (List.getElem?_eq_some_iff.1 hu).1
   simp at hj
   subst hj
   injection hu with hu
   subst hu
   rw [Addr.add_lit]; exact hc)
  (by intro u hu; rw [List.mem_singleton.1 hu]; rfl) (by unfold maxLen; omega) (by omega) (by omega)
 have hvl := hin.1
 have hbel : Below B w w' := (Below.refl B w).grown h3 hB hvB
 have grow : ∀ (x : Value) (B' : Nat) (zs : List Int), Own w B' x zs → Own w' B' x zs := fun x B' zs ho => ho.grow h3 (by
  rcases hxb : x.ownBlock with _ | k
  · exact .inl rfl
  · exact .inr fun e => Own.notSliceBlock hrow ho k hxb e.symm)
 have hrd : Rd w' ar xs := hr.grow h3 (fun p hp e => by have := hrB p hp; have := hvB p.block e.symm; omega)
 have h2' := h2
 rcases h2.2 with ⟨_, h0⟩ | ⟨g, cap, cur, rfl, _, hg, hn, hm, hs, ht⟩
 · simp at h0
 · have hlen : (xss ++ [xs]).length = xss.length + 1 := by simp
   refine ⟨some ⟨g, 0, none⟩, cap, w', by rw [h1, hlen], ⟨by rw [hlen]; exact hl, fun _ => ⟨g, 0, rfl, fun i hi => ?_⟩⟩, hbel⟩
   rw [hlen] at hi
   rw [Nat.zero_add, h2'.cellAt i (by simpa using hi)]
   by_cases hil : i < vs.length
   · have e : nthL (xss ++ [xs]) i = nthL xss i := by rw [nthL, nthL, List.getD_eq_getElem?_getD, List.getElem?_append_left (by omega), ← List.getD_eq_getElem?_getD]
     have ho := grow _ _ _ (hin.2.1 i vs[i] (List.getElem?_eq_getElem hil))
     obtain ⟨a, c, e2, hr2, _⟩ := ho.form
     rw [List.getElem?_append_left hil, List.getElem?_eq_getElem hil, e]
     exact ⟨a, c, by rw [← e2], hr2⟩
   · obtain rfl : i = vs.length := by omega
     have e : nthL (xss ++ [xs]) vs.length = xs := by simp [nthL, hvl]
     rw [e]
     exact ⟨ar, cr, by simp, hrd⟩
theorem wpList_append_read {ops : Array Oper} {rest : List Oper} {o : Oper} {a : Act} {Q : Exit → Act → World → Prop} (hgd : o.guard = none) (s x : Operand)
    (ho : o.op = .call { callee := .builtin .append, args := #[s, x], argTypes := #[35, 35] })
    (hs : a.eval s = v) (hown : OwnSH w B hi v xss) (g1 : Nat) (hx : a.eval x = .slice (some ⟨g1, 0, none⟩) 1 1) (hc : w.cell? ⟨g1, 0, none⟩ = some (.slice ar xs.length cr)) (hr : Rd w ar xs) (hrB : ∀ p, ar = some p → p.block < B) (hB : B ≤ w.heap.size) (hl : xss.length + 1 ≤ 1073741824)
    (h : ∀ a' c' w', RdS w' a' (xss ++ [xs]) → Below B w w' → wpList Try.prog ops Q rest (a.put o.dst (.slice a' (xss ++ [xs]).length c')) w') :
    wpList Try.prog ops Q (o :: rest) a w :=
 wpList_plain hgd fun K hK => by
  obtain ⟨a', c', w', hrun, h2, h3⟩ := run_append_read hown g1 hc hr hrB hB hl o.type
  unfold Oper.wp execOp
  simp only [ho, resolve, invoke, builtin, Sem.run_bind, Sem.run_pure, Result.andThen_ok, List.map_toArray, List.map_cons, List.map_nil, hs, hx, hrun]
  exact hK _ _ (h a' c' w' h2 h3)
end
end Go.Proofs.Ytgmgpcaahanmiaa
