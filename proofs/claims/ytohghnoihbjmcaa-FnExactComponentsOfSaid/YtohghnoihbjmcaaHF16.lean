/-
  Texts joined.
-/
import Derived.Test.YtohghnoihbjmcaaHF1
import Derived.Test.YtohghnoihbjmcaaHF7
import Derived.Test.YtohghnoihbjmcaaHF10
import Derived.Test.YtohghnoihbjmcaaHF14
import Derived.Test.YtohghnoihbjmcaaHF15
set_option linter.unusedVariables false
set_option linter.unusedSimpArgs false
set_option maxRecDepth 100000
set_option maxHeartbeats 40000000
namespace Go.Proofs.Ytohghnoihbjmcaa
open Go.RowKit
attribute [local go_sem ↓] Go.wp_at_zero Go.wp_at_succ
theorem GG.inE {n : Nat} {xs : List Int} {es : List (Int × Int)} (h : GG n xs es) : InE n es := fun e he => by
 have h1 := h.lo e he
 have h2 := h.lt e he
 have h3 := h.hi e he
 omega
theorem near_same {n : Nat} {xs : List Int} {es : List (Int × Int)} (h : GG n xs es) : (nbrA n es es.length).map sortI = nearA n (adjE es) n := by
 rw [nbrA, nearA, List.map_map, List.take_length]
 refine List.map_congr_left fun v _ => ?_
 exact near_of_sorted h (sortI_perm _) (sortI_le _)
end Go.Proofs.Ytohghnoihbjmcaa
namespace Go.Proofs.Ytohghnoihbjmcaa
open Go.RowKit
attribute [local go_sem ↓] Go.wp_at_zero Go.wp_at_succ
theorem Own.lit1 (w : World) (x : Int) : Own (w.alloc (.cells #[.int .i64 x] 2)) w.heap.size (.slice (some ⟨w.heap.size, 0, none⟩) 1 1) [x] := ⟨by simp, World.ownsRow_lit w #[.int .i64 x] 1 (Nat.le_refl _) (by unfold maxLen; omega) rfl⟩
def RetLL (w : World) (r : List (List Int)) (e : Ending) (w' : World) : Prop := ∃ v, e = .returned v ∧ OwnS w' w.heap.size v r ∧ Below w.heap.size w w'
theorem seenRow_step {w : World} {g n : Nat} {D ord : List Int} (h : w.rowIs g 4 n (fun j => .bool (seenF D ord j))) (y : Nat) : (w.setCell ⟨g, y, none⟩ (.bool true)).rowIs g 4 n (fun j => .bool (seenF D (ord ++ [(y : Int)]) j)) := by
 obtain ⟨cc, q1, q2, q3⟩ := h.set y (.bool true)
 refine ⟨cc, q1, q2, fun j hj => (q3 j hj).trans ?_⟩
 have e := congrFun (seenF_snoc D ord y) j
 dsimp only at e ⊢
 rw [← e]
 by_cases h : j = y
 · rw [if_pos h, if_pos h]
 · rw [if_neg h, if_neg h]
theorem seenRow_start (w : World) (n : Nat) : (w.alloc (.cells (madeCells #[.bool false] n) 4)).rowIs w.heap.size 4 n (fun j => .bool (seenF [] [] j)) := by
 obtain ⟨cc, q1, q2, q3⟩ := World.rowIs_made w (.bool false) n 4
 exact ⟨cc, q1, q2, fun j hj => by rw [q3 j hj]; simp [seenF]⟩
theorem bfs_part {N : List (List Int)} (hN : NOk N) (D : List Int) {v : Nat} (hv : v < N.length) {k : Nat} {u : Nat} (hu : u < N.length) (i : Nat) : ordOk N.length (visits D (bfs N D v k) ((nthL N u).take i)) :=
 visits_ok (bfs_ok hN D hv k) fun x hx => hN u hu x (List.mem_of_mem_take hx)
theorem visit_yes {D ord : List Int} {x : Nat} (h : seenF D ord x = true) : visit D ord x = ord := by
 rw [seenF, decide_eq_true_eq] at h
 rw [visit, if_pos h]
theorem visit_no {D ord : List Int} {x : Nat} (h : seenF D ord x = false) : visit D ord x = ord ++ [(x : Int)] := by
 rw [seenF, decide_eq_false_iff_not] at h
 rw [visit, if_neg h]
theorem compsTo_in {N : List (List Int)} {v : Nat} (h : seenF (compsTo N v).2 [] v = true) : compsTo N (v + 1) = compsTo N v := by
 simp only [seenF, List.not_mem_nil, or_false, decide_eq_true_eq] at h
 rw [compsTo, if_pos h]
theorem compsTo_new {N : List (List Int)} {v : Nat} (h : seenF (compsTo N v).2 [] v = false) : compsTo N (v + 1) = ((compsTo N v).1 ++ [sortI (comp N (compsTo N v).2 (v : Int))], (compsTo N v).2 ++ comp N (compsTo N v).2 (v : Int)) := by
 simp only [seenF, List.not_mem_nil, or_false, decide_eq_false_iff_not] at h
 rw [compsTo, if_neg h]
theorem compsTo_len (N : List (List Int)) : ∀ v, (compsTo N v).1.length ≤ v
 | 0 => by simp [compsTo]
 | v + 1 => by
  have := compsTo_len N v
  rw [compsTo]
  split
  · omega
  · simp; omega
theorem rowIs_grown {w w' : World} {g n : Nat} {t : TypeId} {f : Nat → Value} {row : Option Nat} (h : w.rowIs g t n f) (hg : w.grownBy w' row) (hne : row ≠ some g) : w'.rowIs g t n f := h.of_block (hg.block g h.lt (fun e => hne e.symm))
theorem rowIs_below {w w' : World} {g n : Nat} {t : TypeId} {f : Nat → Value} (h : w.rowIs g t n f) (hb : Below w.heap.size w w') : w'.rowIs g t n f := h.of_block (hb.block g h.lt)
theorem implCP_any (a : Option Addr) (c : Nat) (xs : List Int) (ra : Option Addr) (rc : Nat) (es : List (Int × Int)) (w : World) (hx : Rd w a xs) (hes : RdE w ra es) :
    Calls Try.prog 35 #[.agg #[.slice a xs.length c, .slice ra es.length rc]] w (RetLL w (cpRes xs es)) := by
 have hxl := hx.len
 have hel := hes.len
 generalize hR : cpRes xs es = r
 obtain ⟨w0, hw0⟩ : ∃ w0, w0 = w.alloc (.cells #[.slice a xs.length c, .slice ra es.length rc] 30) := ⟨_, rfl⟩
 have hb0 : Below w.heap.size w w0 := by rw [hw0]; exact (Below.refl _ _).alloc (Nat.le_refl _) _
 have kA : Blk w0 w.heap.size 30 #[.slice a xs.length c, .slice ra es.length rc] := by rw [hw0]; exact Blk.new _ _ _ rfl
 have s0 : w0.heap.size = w.heap.size + 1 := by rw [hw0]; simp
 have BA := hide (show ∀ W, Below w0.heap.size w0 W → Blk W w.heap.size 30 #[.slice a xs.length c, .slice ra es.length rc] from fun W h => kA.below h kA.lt)
 have HX := hide (hx.below hb0)
 have HES := hide (hes.below hb0)
 have f0 := kA.cell 0
 have f1 := kA.cell 1
 rw [hw0] at f0 f1
 have HW := Lib.hid hw0
 have hv := implValidGraph_any a ra c rc xs es w0 (unhide HX) (unhide HES)
 cases hk : okG xs es with
 | false =>
  have HN := Lib.hid (show r = [] by rw [← hR, cpRes, hk]; rfl)
  rw [hk] at hv
  have HV := hide hv
  clear hv hk hR hw0
  go_enter Try.func35, Try.ntmps35
  go_wp2_with fail
  rw [← HW.out]
  refine (unhide HV).mono ?_
  rintro e w1 ⟨rfl, b1⟩
  go_wp2
  go_ret
  exact ⟨_, rfl, by rw [HN.out]; exact OwnS.nil _ _, hb0.trans (b1.mono hb0.size)⟩
 | true =>
  have hG := okG_iff.1 hk
  have hn64 := hG.n64
  have hm := hG.m512
  rw [hk] at hv
  have HV := hide hv
  obtain ⟨N, hN⟩ : ∃ N, N = nearA xs.length (adjE es) xs.length := ⟨_, rfl⟩
  have hNl : N.length = xs.length := by rw [hN, nearA_len]
  have hok : NOk N := by rw [hN]; exact near_ok _ _
  have HR := Lib.hid (show r = (compsTo N N.length).1 by rw [← hR, cpRes, if_pos hk, ← hN, hNl])
  have hnb : ∀ W, Below w0.heap.size w0 W → Calls Try.prog 54 #[.agg #[.slice a xs.length c, .slice ra es.length rc]] W fun e w' => ∃ v, e = .returned v ∧ OwnS w' W.heap.size v N ∧ Below W.heap.size W w' := fun W h => by
   rw [hN, ← near_same hG]
   exact neighborLists_any a xs.length c ra rc es W (by omega) (by omega) ((unhide HES).below h) hG.inE hG.lt
  have HNB := hide hnb
  have hll : ∀ k, k < N.length → (nthL N k).length ≤ 64 := fun k hk => by
   rw [hN, nearA_nth _ (by omega)]
   exact Nat.le_trans (nearT_len _ _ _) hn64
  have HLL := hide hll
  have HOK := hide hok
  have hmk := fun W => run_make_row' (P := Try.prog) 64 4 (.bool false) 1 Try.underlying64 Try.info_bool rfl .i64 .i64 N.length (by omega) (by omega) W
  have hn64' : N.length ≤ 64 := by omega
  clear hv hk hR hw0 hnb hll hok hG hN hNl
  go_enter Try.func35, Try.ntmps35
  go_wp2_with fail
  rw [← HW.out]
  refine (unhide HV).mono ?_
  rintro e w1 ⟨rfl, b1⟩
  clear f0 f1
  have k1 := unhide BA w1 (b1)
  have f0 := k1.cell 0
  have f1 := k1.cell 1
  go_wp2_with fail
  refine (unhide HNB _ b1).mono ?_
  rintro e w2 ⟨v2, rfl, o2, b2⟩
  obtain ⟨la, lc, rfl, r2⟩ := o2.form
  have d2 := hb0.trans ((Below.chain b1 b2).mono hb0.size)
  have R2 := hide r2
  obtain ⟨w3, hw3⟩ : ∃ z, z = w2.alloc (.cells (madeCells #[.bool false] N.length) 4) := ⟨_, rfl⟩
  have b3 : Below w2.heap.size w2 w3 := by rw [hw3]; exact (Below.refl _ _).alloc (Nat.le_refl _) _
  have q3 : w3.rowIs w2.heap.size 4 N.length (fun j => .bool (seenF (compsTo N 0).2 [] j)) := by rw [hw3]; exact seenRow_start w2 N.length
  have s3 : w2.heap.size + 1 ≤ w3.heap.size := by rw [hw3]; simp
  have Q3 := hide q3
  have HW3 := Lib.hid hw3
  clear hw3 o2 r2 q3 f0 f1 k1
  go_upto_region 5 with fail
  rw [← HW3.out]
  go_wp2_with fail
  go_loopw [5, 21] (fun v5 iv wr => ∃ v : Nat, iv = .int .i64 v ∧ v ≤ N.length ∧ Hid (OwnS wr w3.heap.size v5 (compsTo N v).1) ∧ Hid (wr.rowIs w2.heap.size 4 N.length (fun j => .bool (seenF (compsTo N v).2 [] j))) ∧ Below w2.heap.size w2 wr ∧ w3.heap.size ≤ wr.heap.size) (fun _ iv _ => N.length - (intOf iv).toNat)
  case atStart => exact ⟨0, rfl, Nat.zero_le _, OwnS.nil _ _, Q3, b3, Nat.le_refl _⟩
  case round =>
   obtain ⟨v, rfl, hv, ho, hq, hb, hz3⟩ := hrel
   have hsz := hb.size
   rename World => wo
   by_cases hvn : v < N.length
   · have cs := hq.out.cell hvn
     have fs := hq.out.frozen v
     cases hin : seenF (compsTo N v).2 [] v with
     | true =>
      rw [hin] at cs
      have hst := compsTo_in hin
      have HST := Lib.hid hst
      clear hin hst
      go_wp2_with fail
      go_roundw
      case rel => exact ⟨v + 1, by go_num, by omega, by rw [HST.out]; exact ho, by rw [HST.out]; exact hq, hb, hz3⟩
      case measure => simp only [intOf]; omega
     | false =>
      rw [hin] at cs
      have hst := compsTo_new hin
      have hcl := compsTo_len N v
      have HST := Lib.hid hst
      obtain ⟨C, hC⟩ : ∃ C, C = (compsTo N v).1 := ⟨_, rfl⟩
      obtain ⟨D, hD⟩ : ∃ D, D = (compsTo N v).2 := ⟨_, rfl⟩
      rw [← hC] at ho hcl
      rw [← hC, ← hD] at HST
      rw [← hD] at hq hin
      have HCL := Lib.hid hcl
      obtain ⟨w4, hw4⟩ : ∃ z, z = wo.setCell ⟨w2.heap.size, v, none⟩ (.bool true) := ⟨_, rfl⟩
      have s4 : w4.heap.size = wo.heap.size := by rw [hw4]; simp
      have q4 : w4.rowIs w2.heap.size 4 N.length (fun j => .bool (seenF D [(v : Int)] j)) := by rw [hw4]; exact seenRow_step hq.out v
      have b4 : Below w2.heap.size w2 w4 := by rw [hw4]; exact hb.setCell (Nat.le_refl _) _
      have kp4 : Kp wo w4 w3.heap.size wo.heap.size := by rw [hw4]; exact (Kp.refl _ _ _).setCell (.inl (by show w2.heap.size < w3.heap.size; omega)) _
      have HO := hide ho.out.toH
      have Q4 := hide q4
      have HW4 := Lib.hid hw4
      clear hin hst hC hD hw4 ho hq q4 hcl
      go_upto_region 11 with fail
      rw [← HW4.out]
      obtain ⟨w5, hw5⟩ : ∃ z, z = w4.alloc (.cells #[.int .i64 (v : Int)] 2) := ⟨_, rfl⟩
      have b5 : Below w4.heap.size w4 w5 := by rw [hw5]; exact (Below.refl _ _).alloc (Nat.le_refl _) _
      have o5 : Own w5 wo.heap.size (.slice (some ⟨wo.heap.size, 0, none⟩) 1 1) (bfs N D v 0) := by
       rw [hw5, ← s4]
       exact Own.lit1 w4 (v : Int)
      have O5 := hide o5
      have d5 := b4.trans (b5.mono (by have := b4.size; omega))
      have kp5 : Kp wo w5 w3.heap.size wo.heap.size := kp4.trans (Kp.below b5 (by omega))
      have Q5 := hide (rowIs_below (unhide Q4) b5)
      have HW5 := Lib.hid hw5
      clear hw5 o5 cs fs
      go_upto_region 12 with fail
      rw [← HW5.out]
      go_wp2_with fail
      go_loopw [7, 8] (fun v7 iv wr => ∃ k : Nat, iv = .int .i64 k ∧ k ≤ (bfs N D v k).length ∧ Hid (Own wr wo.heap.size v7 (bfs N D v k)) ∧ Hid (wr.rowIs w2.heap.size 4 N.length (fun j => .bool (seenF D (bfs N D v k) j))) ∧ Kp wo wr w3.heap.size wo.heap.size ∧ Below w2.heap.size w2 wr) (fun _ iv _ => N.length - (intOf iv).toNat)
      case atStart => exact ⟨0, rfl, Nat.zero_le _, O5, Q5, kp5, d5⟩
      case round =>
       obtain ⟨k, rfl, hk, ho, hq, hkp, hb⟩ := hrel
       have hord := bfs_ok (unhide HOK) D hvn k
       have hol := ordOk_len hord
       obtain ⟨ord, hor⟩ : ∃ ord, ord = bfs N D v k := ⟨_, rfl⟩
       rw [← hor] at hk ho hq hord hol
       obtain ⟨a7, c7, rfl, r7, _⟩ := ho.out.form
       by_cases hkl : k < ord.length
       · obtain ⟨b0, off, rfl, _, hcc⟩ := r7.at_ (by omega)
         have hu1 := hcc k hkl
         have hur := hord.2 _ (nth_mem hkl)
         obtain ⟨u, hu⟩ : ∃ u : Nat, nth ord k = (u : Int) := ⟨(nth ord k).toNat, by omega⟩
         rw [hu] at hu1 hur
         have hun : u < N.length := by omega
         obtain ⟨nb, no, rfl, hnb, hnc⟩ := (unhide R2).at_ (by omega)
         obtain ⟨ai, ci, hl0, hri⟩ := hnc u hun
         have hl1 := (hb.cell (p := ⟨nb, no + u, none⟩) hnb).trans hl0
         have hnx := bfs_pos N D v (k := k) (by rw [← hor]; exact hkl)
         rw [← hor, hu, Int.toNat_natCast] at hnx
         have hpart := fun i => bfs_part (unhide HOK) D hvn (k := k) hun i
         rw [← hor] at hpart
         have hrin := (unhide HOK) u hun
         obtain ⟨row, hrow⟩ : ∃ row, row = nthL N u := ⟨_, rfl⟩
         have hrl := (unhide HLL) u hun
         rw [← hrow] at hl1 hri hnx hrin hrl hpart
         have HPART := hide hpart
         have HRI := hide hri
         have HNX := Lib.hid hnx
         have HRIN := hide hrin
         have O7 := hide (show Own _ wo.heap.size (.slice (some ⟨b0, off, none⟩) ord.length c7) (visits D ord (row.take 0)) from ho.out)
         have Q7 := hide (show World.rowIs _ w2.heap.size 4 N.length (fun j => .bool (seenF D (visits D ord (row.take 0)) j)) from hq.out)
         clear hcc hord hur hu hnc hl0 hnx hpart hrin hri hrow r7 ho hq hor
         go_wp2_with fail
         go_loopw [7, 47] (fun v7 iv wr => ∃ i : Nat, iv = .int .i64 i ∧ i ≤ row.length ∧ Hid (Own wr wo.heap.size v7 (visits D ord (row.take i))) ∧ Hid (wr.rowIs w2.heap.size 4 N.length (fun j => .bool (seenF D (visits D ord (row.take i)) j))) ∧ Kp wo wr w3.heap.size wo.heap.size ∧ Below w2.heap.size w2 wr) (fun _ iv _ => row.length - (intOf iv).toNat)
         case atStart => exact ⟨0, rfl, Nat.zero_le _, O7, Q7, hkp, hb⟩
         case round =>
          obtain ⟨i, rfl, hi, ho, hq, hkp, hb⟩ := hrel
          have hkz := hkp.1
          by_cases hil : i < row.length
          · have hst := visits_take D ord hil
            have hxr := (unhide HRIN) _ (nth_mem hil)
            obtain ⟨x, hx⟩ : ∃ x : Nat, nth row i = (x : Int) := ⟨(nth row i).toNat, by omega⟩
            obtain ⟨rb, ro, rfl, hrb, hrc⟩ := (unhide HRI).at_ (by omega)
            have hx1 := (hb.cell (p := ⟨rb, ro + i, none⟩) hrb).trans (hrc i hil)
            rw [hx] at hst hxr hx1
            have hxn : x < N.length := by omega
            have cs := hq.out.cell hxn
            have fs := hq.out.frozen x
            have hpl := ordOk_len ((unhide HPART) i)
            obtain ⟨ord', ho'⟩ : ∃ ord', ord' = visits D ord (row.take i) := ⟨_, rfl⟩
            rw [← ho'] at ho hq hst cs hpl
            cases hin : seenF D ord' x with
            | true =>
             rw [hin] at cs
             rw [visit_yes hin] at hst
             have HST := Lib.hid hst
             clear hrc hx hst hin ho'
             go_wp2_with fail
             go_roundw
             case rel => exact ⟨i + 1, by go_num, by omega, by rw [HST.out]; exact ho, by rw [HST.out]; exact hq, hkp, hb⟩
             case measure => simp only [intOf]; omega
            | false =>
             rw [hin] at cs
             rw [visit_no hin] at hst
             have HST := Lib.hid hst
             obtain ⟨w6, hw6⟩ : ∃ z, z = wr.setCell ⟨w2.heap.size, x, none⟩ (.bool true) := ⟨_, rfl⟩
             have s6 : wr.heap.size ≤ w6.heap.size := by rw [hw6]; simp
             have Q6 := hide (show w6.rowIs w2.heap.size 4 N.length (fun j => .bool (seenF D (ord' ++ [(x : Int)]) j)) by rw [hw6]; exact seenRow_step hq.out x)
             have O6 := hide (show Own w6 wo.heap.size _ ord' by rw [hw6]; exact ho.out.storeBelow (by show w2.heap.size < _; omega) _)
             have b6 : Below w2.heap.size w2 w6 := by rw [hw6]; exact hb.setCell (Nat.le_refl _) _
             have kp6 : Kp wo w6 w3.heap.size wo.heap.size := by rw [hw6]; exact hkp.setCell (.inl (by show w2.heap.size < w3.heap.size; omega)) _
             have HW6 := Lib.hid hw6
             have b6s := b6.size
             obtain ⟨a6, c6, rfl, _, _⟩ := (unhide O6).form
             clear hrc hx hst hin ho' ho hq hw6
             go_upto_region 20 with fail
             rw [← HW6.out]
             go_wp2_with (at_builtin; refine wpList_append_ints rfl (.tmp 59) (.tmp 61) rfl wo.heap.size _ ord' [(x : Int)] rfl ((unhide O6).alloc _) _ 1 1 rfl rfl (Rd.one w6 (x : Int) _) (by simp; omega) (by simp; omega) ?_; intro v7 w7 o7 g7 _)
             have hlt6 : ∀ q, Value.ownBlock (.slice a6 ord'.length c6) = some q → wo.heap.size ≤ q := fun q hq => ((unhide O6).lt q hq).1
             go_roundw
             case rel =>
              refine ⟨i + 1, by go_num, by omega, by rw [HST.out]; exact o7, ?_, ?_, ?_⟩
              · rw [HST.out]
                exact rowIs_grown (rowIs_below (unhide Q6) ((Below.refl _ _).alloc (Nat.le_refl _) _)) g7 (fun e => by have := hlt6 _ e; omega)
              · exact (kp6.alloc (by omega) _).grown g7 (fun q hq => .inr (hlt6 q hq)) (by simp; omega)
              · exact (b6.alloc (by omega) _).grown g7 (by simp; omega) (fun q hq => by have := hlt6 q hq; omega)
             case measure => simp only [intOf]; omega
          · have hie : i = row.length := by omega
            have hoo := ho.out
            have hqq := hq.out
            rw [hie, List.take_length, ← HNX.out] at hoo hqq
            have OO := hide hoo
            have QQ := hide hqq
            have hkk : k + 1 ≤ (bfs N D v (k + 1)).length := by
             rw [HNX.out]
             exact Nat.le_trans hkl (visits_len D row ord)
            clear hie hoo hqq ho hq
            go_wp2_with fail
            go_roundw
            case rel => exact ⟨k + 1, by go_num, hkk, OO, QQ, hkp, hb⟩
            case measure => simp only [intOf]; omega
       · have hkz := hkp.1
         have hcomp : comp N D v = ord := by rw [hor]; exact comp_of (unhide HOK) hvn (by rw [← hor]; exact hk) (by rw [← hor]; exact hkl)
         have oo := ho.out
         have hso := sortI_own oo
         have HSO := hide hso
         have HCOMP := Lib.hid hcomp
         have hlt7 : ∀ q, Value.ownBlock (.slice a7 ord.length c7) = some q → wo.heap.size ≤ q := fun q hq => (oo.lt q hq).1
         have HLT := hide hlt7
         have hsl := sortI_len ord
         have HSL := Lib.hid hsl
         have QQ := hide hq.out
         have hbz := hb.size
         clear hcomp hso oo hlt7 hsl hord hor r7 ho hq
         go_wp2_with fail
         refine (unhide HSO).mono ?_
         rintro e w8 ⟨rfl, o8, g8⟩
         have z8 := g8.size
         have q8 := rowIs_grown (unhide QQ) g8 (fun e => by have := (unhide HLT) _ e; omega)
         have kp8 := hkp.grown g8 (fun q hq => .inr ((unhide HLT) q hq)) hkz
         have b8 := hb.grown g8 hbz (fun q hq => by have := (unhide HLT) q hq; omega)
         have hh8 := (unhide HO).kp kp8
         have Q8 := hide q8
         have O8 := hide o8
         have H8 := hide hh8
         have b8s := b8.size
         clear o8 q8 hh8
         go_wp2_with (at_builtin; refine wpList_append_row rfl (.tmp 66) (.tmp 68) rfl (v := u5) rfl ((unhide H8).belw ((Below.refl _ _).alloc (Nat.le_refl _) _) (by omega)) _ rfl ((Blk.new w8 22 #[.slice a7 ord.length c7] rfl).cell 0) ((unhide O8).alloc _) hz3 (by simp; omega) (by have := HCL.out; omega) ?_; intro v9 w9 o9 g9 _)
         have hb9 := (b8.alloc (by omega) (.cells #[.slice a7 ord.length c7] 22))
         have hh9 := ((unhide H8).belw ((Below.refl _ _).alloc (Nat.le_refl _) (.cells #[.slice a7 ord.length c7] 22)) (by omega)).own
         have g9s := g9.size
         go_roundw
         case rel =>
          refine ⟨v + 1, by go_num, by omega, ?_, ?_, ?_, ?_⟩
          · rw [HST.out, HCOMP.out]
            exact o9
          · rw [HST.out, HCOMP.out]
            have h := rowIs_grown (rowIs_below (unhide Q8) ((Below.refl _ _).alloc (Nat.le_refl _) (.cells #[.slice a7 ord.length c7] 22))) g9 (fun e => by have := (hh9.toH.inV _ e).1; omega)
            rw [seenF_all] at h
            exact h
          · exact Below.stepS hb9 g9 hh9 (by omega) (by simp; omega)
          · simp at g9s; omega
         case measure => simp only [intOf]; omega
   · have hve : v = N.length := by omega
     have hoo := ho.out
     rw [hve, ← HR.out] at hoo
     have OO := hide hoo
     clear hve hoo ho hq
     go_wp2_with fail
     go_ret
     exact ⟨_, rfl, (unhide OO).mono (by have := d2.size; omega), d2.trans (hb.mono d2.size)⟩
end Go.Proofs.Ytohghnoihbjmcaa
namespace Go.Proofs.Ytohghnoihbjmcaa
open Go.RowKit
attribute [local go_sem ↓] Go.wp_at_zero Go.wp_at_succ
theorem l00Put_any (a : Option Addr) (c : Nat) (xs : List Int) (n : Int) (w : World) (hx : Rd w a xs) (hn : xs.length ≤ 1000000) :
    Calls Try.prog 61 #[.slice a xs.length c, .int .i64 n] w fun e w' => ∃ v, e = .returned v ∧ Own w' w.heap.size v (putI n xs) ∧ Below w.heap.size w w' := by
 have hxl := hx.len
 have HX := hide hx
 clear hx
 go_enter Try.func61, Try.ntmps61
 go_wp2_with fail
 go_loopw [5, 6, 7] (fun v5 dv iv wr => ∃ i : Nat, iv = .int .i64 i ∧ dv = .bool (putTo n xs i).2 ∧ i ≤ xs.length ∧ Hid (Own wr w.heap.size v5 (putTo n xs i).1) ∧ Below w.heap.size w wr) (fun _ _ iv _ => xs.length - (intOf iv).toNat)
 case atStart => exact ⟨0, rfl, rfl, Nat.zero_le _, Own.empty w (Nat.le_refl _), (Below.refl _ _).alloc (Nat.le_refl _) _⟩
 case round =>
  obtain ⟨i, rfl, rfl, hi, ho, hb⟩ := hrel
  have hsz := hb.size
  have hpl := putTo_len n xs i
  by_cases hil : i < xs.length
  · obtain ⟨b1, o1, rfl, hbb, hcx⟩ := (unhide HX).at_ (by omega)
    have hx0 := hcx i hil
    have hst : putTo n xs (i + 1) = if (putTo n xs i).2 = false ∧ n ≤ nth xs i then ((putTo n xs i).1 ++ (if n < nth xs i then [n] else []) ++ [nth xs i], true) else ((putTo n xs i).1 ++ [nth xs i], (putTo n xs i).2) := rfl
    obtain ⟨x, hxx⟩ : ∃ x, x = nth xs i := ⟨_, rfl⟩
    obtain ⟨L, hL⟩ : ∃ L, L = (putTo n xs i).1 := ⟨_, rfl⟩
    rw [← hxx] at hx0 hst
    rw [← hL] at ho hst hpl
    have hx1 := (hb.cell (p := ⟨b1, o1 + i, none⟩) hbb).trans hx0
    have HX0 := hide hx0
    have hlt : ∀ u : Value, ∀ W : World, ∀ M : List Int, Own W w.heap.size u M → ∀ q, u.ownBlock = some q → w.heap.size ≤ q := fun u W M h q hq => (h.lt q hq).1
    have HLT := hide hlt
    obtain ⟨a5, c5, rfl, _, _⟩ := ho.out.form
    cases hd : (putTo n xs i).2 with
    | true =>
     have hst2 : putTo n xs (i + 1) = (L ++ [x], true) := by rw [hst, hd, if_neg (by simp)]
     have HST := Lib.hid hst2
     clear hcx hxx hL hst hst2 hd hx0 hlt
     go_wp2_with (at_builtin; refine wpList_append_ints rfl (.tmp 35) (.tmp 40) rfl w.heap.size _ L [x] rfl (ho.out.alloc _) _ 1 1 rfl rfl (Rd.one wr x _) (by simp; omega) (by simp; omega) ?_; intro v5 w5 o5 g5 _)
     go_roundw
     case rel => exact ⟨i + 1, by go_num, by rw [HST.out], by omega, by rw [HST.out]; exact o5, (hb.alloc (by omega) _).grown g5 (by simp; omega) (fun q hq => unhide HLT _ _ _ ho.out q hq)⟩
     case measure => simp only [intOf]; omega
    | false =>
     by_cases h1 : n ≤ x
     · have e1 : decide (n ≤ x) = true := decide_eq_true h1
       by_cases h2 : n < x
       · have e2 : decide (n < x) = true := decide_eq_true h2
         have hst2 : putTo n xs (i + 1) = (L ++ [n] ++ [x], true) := by rw [hst, hd, if_pos ⟨rfl, h1⟩, if_pos h2]
         have HST := Lib.hid hst2
         clear hcx hxx hL hst hst2 hd hx0 hlt h1 h2
         go_wp2_with (first
          | (at_builtin; refine wpList_append_ints rfl (.tmp 31) (.tmp 33) rfl w.heap.size _ L [n] rfl (ho.out.alloc _) _ 1 1 rfl rfl (Rd.one wr n _) (by simp; omega) (by simp; omega) ?_; intro v6 w6 o6 g6 _; have b6 := (hb.alloc (by omega) (.cells #[.int .i64 n] 2)).grown g6 (by simp; omega) (fun q hq => unhide HLT _ _ _ ho.out q hq); have hx1 := (b6.cell (p := ⟨b1, o1 + i, none⟩) hbb).trans (unhide HX0); have b6s := b6.size; obtain ⟨a6, c6, rfl, _, _⟩ := o6.form; rw [show (L ++ [n]).length = L.length + 1 by simp] at o6)
          | (at_builtin; refine wpList_append_ints rfl (.tmp 35) (.tmp 40) rfl w.heap.size _ (L ++ [n]) [x] rfl (o6.alloc _) _ 1 1 rfl rfl (Rd.one w6 x _) (by simp; omega) (by simp; omega) ?_; intro v5 w5 o5 g5 _))
         go_roundw
         case rel => exact ⟨i + 1, by go_num, by rw [HST.out], by omega, by rw [HST.out]; exact o5, (b6.alloc (by omega) _).grown g5 (by simp; omega) (fun q hq => unhide HLT _ _ _ o6 q hq)⟩
         case measure => simp only [intOf]; omega
       · have e2 : decide (n < x) = false := by rw [decide_eq_false_iff_not]; exact h2
         have hst2 : putTo n xs (i + 1) = (L ++ [x], true) := by rw [hst, hd, if_pos ⟨rfl, h1⟩, if_neg h2, List.append_nil]
         have HST := Lib.hid hst2
         clear hcx hxx hL hst hst2 hd hx0 hlt h1 h2
         go_wp2_with (at_builtin; refine wpList_append_ints rfl (.tmp 35) (.tmp 40) rfl w.heap.size _ L [x] rfl (ho.out.alloc _) _ 1 1 rfl rfl (Rd.one wr x _) (by simp; omega) (by simp; omega) ?_; intro v5 w5 o5 g5 _)
         go_roundw
         case rel => exact ⟨i + 1, by go_num, by rw [HST.out], by omega, by rw [HST.out]; exact o5, (hb.alloc (by omega) _).grown g5 (by simp; omega) (fun q hq => unhide HLT _ _ _ ho.out q hq)⟩
         case measure => simp only [intOf]; omega
     · have e1 : decide (n ≤ x) = false := by rw [decide_eq_false_iff_not]; exact h1
       have hst2 : putTo n xs (i + 1) = (L ++ [x], false) := by rw [hst, hd, if_neg (fun h => h1 h.2)]
       have HST := Lib.hid hst2
       clear hcx hxx hL hst hst2 hd hx0 hlt h1
       go_wp2_with (at_builtin; refine wpList_append_ints rfl (.tmp 35) (.tmp 40) rfl w.heap.size _ L [x] rfl (ho.out.alloc _) _ 1 1 rfl rfl (Rd.one wr x _) (by simp; omega) (by simp; omega) ?_; intro v5 w5 o5 g5 _)
       go_roundw
       case rel => exact ⟨i + 1, by go_num, by rw [HST.out], by omega, by rw [HST.out]; exact o5, (hb.alloc (by omega) _).grown g5 (by simp; omega) (fun q hq => unhide HLT _ _ _ ho.out q hq)⟩
       case measure => simp only [intOf]; omega
  · have hie : i = xs.length := by omega
    rw [hie] at ho
    have hp : putI n xs = (putTo n xs xs.length).1 ++ (if (putTo n xs xs.length).2 = false then [n] else []) := rfl
    have hpl2 := putTo_len n xs xs.length
    rw [hie]
    obtain ⟨L, hL⟩ : ∃ L, L = (putTo n xs xs.length).1 := ⟨_, rfl⟩
    rw [← hL] at ho hp hpl2
    obtain ⟨a5, c5, rfl, _, _⟩ := ho.out.form
    have hlt : ∀ q, Value.ownBlock (.slice a5 L.length c5) = some q → w.heap.size ≤ q := fun q hq => (ho.out.lt q hq).1
    have HLT := hide hlt
    cases hd : (putTo n xs xs.length).2 with
    | true =>
     rw [hd, if_neg (by simp), List.append_nil] at hp
     have HP := Lib.hid hp
     clear hp hL hd hie hlt hil hpl
     go_wp2_with fail
     go_ret
     exact ⟨_, rfl, by rw [HP.out]; exact ho.out, hb⟩
    | false =>
     rw [hd, if_pos rfl] at hp
     have HP := Lib.hid hp
     clear hp hL hd hie hlt hil hpl
     go_wp2_with (at_builtin; refine wpList_append_ints rfl (.tmp 44) (.tmp 46) rfl w.heap.size _ L [n] rfl (ho.out.alloc _) _ 1 1 rfl rfl (Rd.one wr n _) (by simp; omega) (by simp; omega) ?_; intro v5 w5 o5 g5 _)
     go_ret
     exact ⟨_, rfl, by rw [HP.out]; exact o5, (hb.alloc (by omega) _).grown g5 (by simp; omega) (fun q hq => unhide HLT q hq)⟩
def lenV (v : Value) : Nat := match v with
 | .slice _ n _ => n
 | _ => 0
end Go.Proofs.Ytohghnoihbjmcaa
namespace Go.Proofs.Ytohghnoihbjmcaa
open Go.RowKit
attribute [local go_sem ↓] Go.wp_at_zero Go.wp_at_succ
theorem specCP_any (a : Option Addr) (c : Nat) (xs : List Int) (ra : Option Addr) (rc : Nat) (es : List (Int × Int)) (w : World) (hx : Rd w a xs) (hes : RdE w ra es) :
    Calls Try.prog 34 #[.agg #[.slice a xs.length c, .slice ra es.length rc]] w (RetLL w (cpRes xs es)) := by
 have hxl := hx.len
 have hel := hes.len
 generalize hR : cpRes xs es = r
 obtain ⟨w0, hw0⟩ : ∃ w0, w0 = w.alloc (.cells #[.slice a xs.length c, .slice ra es.length rc] 30) := ⟨_, rfl⟩
 have hb0 : Below w.heap.size w w0 := by rw [hw0]; exact (Below.refl _ _).alloc (Nat.le_refl _) _
 have kA : Blk w0 w.heap.size 30 #[.slice a xs.length c, .slice ra es.length rc] := by rw [hw0]; exact Blk.new _ _ _ rfl
 have s0 : w0.heap.size = w.heap.size + 1 := by rw [hw0]; simp
 have BA := hide (show ∀ W, Below w0.heap.size w0 W → Blk W w.heap.size 30 #[.slice a xs.length c, .slice ra es.length rc] from fun W h => kA.below h kA.lt)
 have HX := hide (hx.below hb0)
 have HES := hide (hes.below hb0)
 have f0 := kA.cell 0
 have f1 := kA.cell 1
 rw [hw0] at f0 f1
 have HW := Lib.hid hw0
 have hv := l21Ok_any a ra c rc xs es w0 (unhide HX) (unhide HES)
 cases hk : okG xs es with
 | false =>
  have HN := Lib.hid (show r = [] by rw [← hR, cpRes, hk]; rfl)
  rw [hk] at hv
  have HV := hide hv
  clear hv hk hR hw0
  go_enter Try.func34, Try.ntmps34
  go_wp2_with fail
  rw [← HW.out]
  refine (unhide HV).mono ?_
  rintro e w1 ⟨rfl, b1⟩
  go_wp2
  go_ret
  exact ⟨_, rfl, by rw [HN.out]; exact OwnS.nil _ _, hb0.trans (b1.mono hb0.size)⟩
 | true =>
  have hG := okG_iff.1 hk
  have hn64 := hG.n64
  have hm := hG.m512
  rw [hk] at hv
  have HV := hide hv
  obtain ⟨N, hN⟩ : ∃ N, N = nearA xs.length (adjE es) xs.length := ⟨_, rfl⟩
  have hNl : N.length = xs.length := by rw [hN, nearA_len]
  have hok : NOk N := by rw [hN]; exact near_ok _ _
  have HR := Lib.hid (show r = (compsTo N N.length).1 by rw [← hR, cpRes, if_pos hk, ← hN, hNl])
  have hnb : ∀ W, Below w0.heap.size w0 W → Calls Try.prog 53 #[.agg #[.slice a xs.length c, .slice ra es.length rc]] W fun e w' => ∃ v, e = .returned v ∧ OwnS w' W.heap.size v N ∧ Below W.heap.size W w' := fun W h => by
   rw [hN]
   exact l21Near_any a xs.length c ra rc es W (by omega) ((unhide HES).below h) hG.inE
  have HNB := hide hnb
  have hll : ∀ k, k < N.length → (nthL N k).length ≤ 64 := fun k hk => by
   rw [hN, nearA_nth _ (by omega)]
   exact Nat.le_trans (nearT_len _ _ _) hn64
  have HLL := hide hll
  have HOK := hide hok
  have hmk := fun W => run_make_row' (P := Try.prog) 64 4 (.bool false) 1 Try.underlying64 Try.info_bool rfl .i64 .i64 N.length (by omega) (by omega) W
  have hn64' : N.length ≤ 64 := by omega
  clear hv hk hR hw0 hnb hll hok hG hN hNl
  go_enter Try.func34, Try.ntmps34
  go_wp2_with fail
  rw [← HW.out]
  refine (unhide HV).mono ?_
  rintro e w1 ⟨rfl, b1⟩
  clear f0 f1
  have k1 := unhide BA w1 (b1)
  have f0 := k1.cell 0
  have f1 := k1.cell 1
  go_wp2_with fail
  refine (unhide HNB _ b1).mono ?_
  rintro e w2 ⟨v2, rfl, o2, b2⟩
  obtain ⟨la, lc, rfl, r2⟩ := o2.form
  have d2 := hb0.trans ((Below.chain b1 b2).mono hb0.size)
  have R2 := hide r2
  obtain ⟨w3, hw3⟩ : ∃ z, z = w2.alloc (.cells (madeCells #[.bool false] N.length) 4) := ⟨_, rfl⟩
  have b3 : Below w2.heap.size w2 w3 := by rw [hw3]; exact (Below.refl _ _).alloc (Nat.le_refl _) _
  have q3 : w3.rowIs w2.heap.size 4 N.length (fun j => .bool (seenF (compsTo N 0).2 [] j)) := by rw [hw3]; exact seenRow_start w2 N.length
  have s3 : w2.heap.size + 1 ≤ w3.heap.size := by rw [hw3]; simp
  have Q3 := hide q3
  have HW3 := Lib.hid hw3
  clear hw3 o2 r2 q3 f0 f1 k1
  go_upto_region 5 with fail
  rw [← HW3.out]
  go_wp2_with fail
  go_loopw [5, 6] (fun v5 iv wr => ∃ v : Nat, iv = .int .i64 v ∧ v ≤ N.length ∧ Hid (OwnS wr w3.heap.size v5 (compsTo N v).1) ∧ Hid (wr.rowIs w2.heap.size 4 N.length (fun j => .bool (seenF (compsTo N v).2 [] j))) ∧ Below w2.heap.size w2 wr ∧ w3.heap.size ≤ wr.heap.size) (fun _ iv _ => N.length - (intOf iv).toNat)
  case atStart => exact ⟨0, rfl, Nat.zero_le _, OwnS.empty w3 (Nat.le_refl _), rowIs_below (unhide Q3) ((Below.refl _ _).alloc (Nat.le_refl _) _), b3.alloc b3.size _, by simp⟩
  case round =>
   obtain ⟨v, rfl, hv, ho, hq, hb, hz3⟩ := hrel
   have hsz := hb.size
   rename World => wo
   by_cases hvn : v < N.length
   · have cs := hq.out.cell hvn
     have fs := hq.out.frozen v
     cases hin : seenF (compsTo N v).2 [] v with
     | true =>
      rw [hin] at cs
      have hst := compsTo_in hin
      have HST := Lib.hid hst
      clear hin hst
      go_wp2_with fail
      go_roundw
      case rel => exact ⟨v + 1, by go_num, by omega, by rw [HST.out]; exact ho, by rw [HST.out]; exact hq, hb, hz3⟩
      case measure => simp only [intOf]; omega
     | false =>
      rw [hin] at cs
      have hst := compsTo_new hin
      have hcl := compsTo_len N v
      have HST := Lib.hid hst
      obtain ⟨C, hC⟩ : ∃ C, C = (compsTo N v).1 := ⟨_, rfl⟩
      obtain ⟨D, hD⟩ : ∃ D, D = (compsTo N v).2 := ⟨_, rfl⟩
      rw [← hC] at ho hcl
      rw [← hC, ← hD] at HST
      rw [← hD] at hq hin
      have HCL := Lib.hid hcl
      obtain ⟨w4, hw4⟩ : ∃ z, z = wo.setCell ⟨w2.heap.size, v, none⟩ (.bool true) := ⟨_, rfl⟩
      have s4 : w4.heap.size = wo.heap.size := by rw [hw4]; simp
      have q4 : w4.rowIs w2.heap.size 4 N.length (fun j => .bool (seenF D [(v : Int)] j)) := by rw [hw4]; exact seenRow_step hq.out v
      have b4 : Below w2.heap.size w2 w4 := by rw [hw4]; exact hb.setCell (Nat.le_refl _) _
      have kp4 : Kp wo w4 w3.heap.size wo.heap.size := by rw [hw4]; exact (Kp.refl _ _ _).setCell (.inl (by show w2.heap.size < w3.heap.size; omega)) _
      have HO := hide ho.out.toH
      have Q4 := hide q4
      have HW4 := Lib.hid hw4
      clear hin hst hC hD hw4 ho hq q4 hcl
      go_upto_region 11 with fail
      rw [← HW4.out]
      obtain ⟨w5, hw5⟩ : ∃ z, z = w4.alloc (.cells #[.int .i64 (v : Int)] 2) := ⟨_, rfl⟩
      have b5 : Below w4.heap.size w4 w5 := by rw [hw5]; exact (Below.refl _ _).alloc (Nat.le_refl _) _
      have o5 : Own w5 wo.heap.size (.slice (some ⟨wo.heap.size, 0, none⟩) 1 1) [(v : Int)] := by
       rw [hw5, ← s4]
       exact Own.lit1 w4 (v : Int)
      have s5 : w5.heap.size = wo.heap.size + 1 := by rw [hw5]; simp [s4]
      have d5 := b4.trans (b5.mono (by have := b4.size; omega))
      have kp5 : Kp wo w5 w3.heap.size wo.heap.size := kp4.trans (Kp.below b5 (by omega))
      have q5 := rowIs_below (unhide Q4) b5
      have HW5 := Lib.hid hw5
      clear hw5 cs fs
      go_upto_region 12 with fail
      rw [← HW5.out]
      obtain ⟨w6, hw6⟩ : ∃ z, z = w5.alloc (.cells #[.int .i64 (v : Int)] 2) := ⟨_, rfl⟩
      have b6 : Below w5.heap.size w5 w6 := by rw [hw6]; exact (Below.refl _ _).alloc (Nat.le_refl _) _
      have O8 := hide (show Own w6 wo.heap.size (.slice (some ⟨wo.heap.size + 1, 0, none⟩) 1 1) (sortI (bfs N D v 0)) by
       have h := Own.lit1 w5 (v : Int)
       rw [← hw6] at h
       rw [s5] at h
       have e : sortI (bfs N D v 0) = [(v : Int)] := (sortI_eq (xs := [(v : Int)]) (ys := [(v : Int)]) (List.Perm.refl _) (by simp)).symm
       rw [e]
       exact h.mono (by omega))
      have O7 := hide (show OwnT w6 wo.heap.size (.slice (some ⟨wo.heap.size, 0, none⟩) 1 1) ((bfs N D v 0).drop 0) from (OwnT.of o5).below b6)
      have d6 := d5.trans (b6.mono d5.size)
      have kp6 : Kp wo w6 w3.heap.size wo.heap.size := kp5.trans (Kp.below b6 (by omega))
      have Q6 := hide (rowIs_below q5 b6)
      have HW6 := Lib.hid hw6
      clear hw6 o5 q5
      go_upto_region 13 with fail
      rw [← HW6.out]
      go_loopw [7, 8] (fun v7 v8 wr => ∃ k : Nat, k ≤ (bfs N D v k).length ∧ lenV v7 + k = lenV v8 ∧ lenV v8 ≤ N.length ∧ Hid (OwnT wr wo.heap.size v7 ((bfs N D v k).drop k)) ∧ Hid (Own wr wo.heap.size v8 (sortI (bfs N D v k))) ∧ Hid (v7.ownBlock ≠ v8.ownBlock) ∧ Hid (wr.rowIs w2.heap.size 4 N.length (fun j => .bool (seenF D (bfs N D v k) j))) ∧ Kp wo wr w3.heap.size wo.heap.size ∧ Below w2.heap.size w2 wr) (fun v7 v8 _ => N.length + lenV v7 - lenV v8)
      case atStart => exact ⟨0, Nat.zero_le _, rfl, by show 1 ≤ _; omega, O7, O8, by show (_ : Option Nat) ≠ _; simp [Value.ownBlock], Q6, kp6, d6⟩
      case round =>
       obtain ⟨k, hk, hlv, hlv8, h7, h8, hne, hq, hkp, hb⟩ := hrel
       have hord := bfs_ok (unhide HOK) D hvn k
       have hol := ordOk_len hord
       obtain ⟨ord, hor⟩ : ∃ ord, ord = bfs N D v k := ⟨_, rfl⟩
       rw [← hor] at hk h7 h8 hq hord hol
       have hsl := sortI_len ord
       obtain ⟨a8, c8, rfl, _, _⟩ := h8.out.form
       by_cases hkl : k < ord.length
       · have hdr : ord.drop k = nth ord k :: ord.drop (k + 1) := by rw [List.drop_eq_getElem_cons hkl, nth_lt hkl]
         have h7' := h7.out
         rw [hdr] at h7'
         have hdl : (ord.drop (k + 1)).length = ord.length - (k + 1) := List.length_drop
         obtain ⟨g, kk, cc, rfl, hu1, hBg, hgl, hcap, _, _⟩ := h7'.head
         have hur := hord.2 _ (nth_mem hkl)
         obtain ⟨u, hu⟩ : ∃ u : Nat, nth ord k = (u : Int) := ⟨(nth ord k).toNat, by omega⟩
         rw [hu] at hu1 hur h7'
         have hun : u < N.length := by omega
         obtain ⟨nb, no, rfl, hnb, hnc⟩ := (unhide R2).at_ (by omega)
         obtain ⟨ai, ci, hl0, hri⟩ := hnc u hun
         have hl1 := (hb.cell (p := ⟨nb, no + u, none⟩) hnb).trans hl0
         have hnx := bfs_pos N D v (k := k) (by rw [← hor]; exact hkl)
         rw [← hor, hu, Int.toNat_natCast] at hnx
         have hpart := fun i => bfs_part (unhide HOK) D hvn (k := k) hun i
         rw [← hor] at hpart
         have hrin := (unhide HOK) u hun
         obtain ⟨row, hrow⟩ : ∃ row, row = nthL N u := ⟨_, rfl⟩
         have hrl := (unhide HLL) u hun
         rw [← hrow] at hl0 hl1 hri hnx hrin hrl hpart
         obtain ⟨q, hqd⟩ : ∃ q, q = ord.drop (k + 1) := ⟨_, rfl⟩
         have hql : q.length + (k + 1) = ord.length := by rw [hqd, hdl]; omega
         rw [← hqd] at h7' hcap
         have HPART := hide hpart
         have HRI := hide hri
         have HL0 := hide hl0
         have HNX := Lib.hid hnx
         have HRIN := hide hrin
         have HSL := Lib.hid hsl
         have H7F := hide h7'
         have HQD := Lib.hid hqd
         have O8 := hide (show Own _ wo.heap.size (.slice a8 (sortI ord).length c8) (sortI (visits D ord (row.take 0))) from h8.out)
         have Q7 := hide (show World.rowIs _ w2.heap.size 4 N.length (fun j => .bool (seenF D (visits D ord (row.take 0)) j)) from hq.out)
         have HNE0 := hide hne.out
         have HQL := Lib.hid hql
         have hl8 : lenV (.slice a8 (sortI ord).length c8) = (visits D ord (row.take 0)).length := by show (sortI ord).length = ord.length; exact hsl
         have HL8 := Lib.hid hl8
         rw [← hqd]
         have hgt : decide ((0 : Int) < ((q.length + 1 : Nat) : Int)) = true := decide_eq_true (by omega)
         have hkz := hkp.1
         clear hord hur hu hnc hl0 hnx hpart hrin hri hrow h7 h8 hq hor hdr h7' hdl hqd hlv hlv8 hsl hql hl8 hne
         go_upto_region 15 with fail
         refine wp_region_lit ?_
         refine wpList_plain rfl fun K1 hK1 => ?_
         unfold Oper.wp execOp
         go_simp
         refine hK1 _ _ ?_
         clear hK1 K1
         refine wpList_tail rfl (.tmp 44) rfl (u : Int) rfl (unhide H7F) ?_
         intro gt kt ct ot et
         have O7 := hide (show OwnT _ wo.heap.size (.slice (some ⟨gt, kt, none⟩) q.length ct) ((visits D ord (row.take 0)).drop (k + 1)) from by have h := ot; rw [HQD.out] at h ⊢; exact h)
         have HNE := hide (show (Value.slice (some ⟨gt, kt, none⟩) q.length ct).ownBlock ≠ (Value.slice a8 (sortI ord).length c8).ownBlock from by rw [et]; exact unhide HNE0)
         have hl7 : lenV (.slice (some ⟨gt, kt, none⟩) q.length ct) + (k + 1) = lenV (.slice a8 (sortI ord).length c8) := by show q.length + (k + 1) = (sortI ord).length; rw [HSL.out, HQL.out]
         have HL7 := Lib.hid hl7
         clear hl7 ot et
         go_wp2_with fail
         go_loopw [7, 8, 10] (fun v7 v8 iv wr => ∃ i : Nat, iv = .int .i64 i ∧ i ≤ row.length ∧ Hid (lenV v7 + (k + 1) = lenV v8) ∧ Hid (lenV v8 = (visits D ord (row.take i)).length) ∧ Hid (OwnT wr wo.heap.size v7 ((visits D ord (row.take i)).drop (k + 1))) ∧ Hid (Own wr wo.heap.size v8 (sortI (visits D ord (row.take i)))) ∧ Hid (v7.ownBlock ≠ v8.ownBlock) ∧ Hid (wr.rowIs w2.heap.size 4 N.length (fun j => .bool (seenF D (visits D ord (row.take i)) j))) ∧ Kp wo wr w3.heap.size wo.heap.size ∧ Below w2.heap.size w2 wr) (fun _ _ iv _ => row.length - (intOf iv).toNat)
         case atStart => exact ⟨0, rfl, Nat.zero_le _, HL7, HL8, O7, O8, HNE, Q7, hkp, hb⟩
         case round =>
          obtain ⟨i, rfl, hi, hl7, hl8, h7, h8, hne, hq, hkp, hb⟩ := hrel
          have hkz := hkp.1
          have hl1 := (hb.cell (p := ⟨nb, no + u, none⟩) hnb).trans (unhide HL0)
          by_cases hil : i < row.length
          · have hst := visits_take D ord hil
            have hxr := (unhide HRIN) _ (nth_mem hil)
            obtain ⟨x, hx⟩ : ∃ x : Nat, nth row i = (x : Int) := ⟨(nth row i).toNat, by omega⟩
            obtain ⟨rb, ro, rfl, hrb, hrc⟩ := (unhide HRI).at_ (by omega)
            have hx1 := (hb.cell (p := ⟨rb, ro + i, none⟩) hrb).trans (hrc i hil)
            rw [hx] at hst hxr hx1
            have hxn : x < N.length := by omega
            have cs := hq.out.cell hxn
            have fs := hq.out.frozen x
            have hpok := (unhide HPART) i
            have hpl := ordOk_len hpok
            have hmono := visits_len D (row.take i) ord
            obtain ⟨ord', ho'⟩ : ∃ ord', ord' = visits D ord (row.take i) := ⟨_, rfl⟩
            rw [← ho'] at h7 h8 hl8 hq hst cs hpl hmono hpok
            cases hin : seenF D ord' x with
            | true =>
             rw [hin] at cs
             rw [visit_yes hin] at hst
             have HST := Lib.hid hst
             clear hrc hx hst hin ho' hpok
             go_wp2_with fail
             go_roundw
             case rel => exact ⟨i + 1, by go_num, by omega, hl7, by rw [HST.out]; exact hl8, by rw [HST.out]; exact h7, by rw [HST.out]; exact h8, hne, by rw [HST.out]; exact hq, hkp, hb⟩
             case measure => simp only [intOf]; omega
            | false =>
             rw [hin] at cs
             rw [visit_no hin] at hst
             have hxo : (x : Int) ∉ ord' := by
              simp only [seenF, decide_eq_false_iff_not] at hin
              exact fun h => hin (.inr h)
             have hps := putI_sort hpok.1 hxo
             have hsl := sortI_len ord'
             have HST := Lib.hid hst
             have HPS := Lib.hid hps
             have HSL := Lib.hid hsl
             have hdrop : (ord' ++ [(x : Int)]).drop (k + 1) = ord'.drop (k + 1) ++ [(x : Int)] := List.drop_append_of_le_length (by omega)
             have HDR := Lib.hid hdrop
             have hdl : (ord'.drop (k + 1)).length = ord'.length - (k + 1) := List.length_drop
             obtain ⟨w6, hw6⟩ : ∃ z, z = wr.setCell ⟨w2.heap.size, x, none⟩ (.bool true) := ⟨_, rfl⟩
             have s6 : wr.heap.size ≤ w6.heap.size := by rw [hw6]; simp
             have gs6 : wr.grownBy w6 (some w2.heap.size) := by rw [hw6]; exact grownBy_setC wr _ _ _
             have Q6 := hide (show w6.rowIs w2.heap.size 4 N.length (fun j => .bool (seenF D (ord' ++ [(x : Int)]) j)) by rw [hw6]; exact seenRow_step hq.out x)
             have O6 := hide (h7.out.grow gs6 (fun e => by have := h7.out.lt _ e; omega))
             have P6 := hide (show Own w6 wo.heap.size _ (sortI ord') by rw [hw6]; exact h8.out.storeBelow (by show w2.heap.size < _; omega) _)
             have b6 : Below w2.heap.size w2 w6 := by rw [hw6]; exact hb.setCell (Nat.le_refl _) _
             have kp6 : Kp wo w6 w3.heap.size wo.heap.size := by rw [hw6]; exact hkp.setCell (.inl (by show w2.heap.size < w3.heap.size; omega)) _
             have HW6 := Lib.hid hw6
             have b6s := b6.size
             obtain ⟨g6, k6, c6, rfl⟩ := (unhide O6).form
             obtain ⟨a7, c7, rfl, _, _⟩ := (unhide P6).form
             have HNE6 := hide hne.out
             clear hrc hx hst hin ho' h7 h8 hq hw6 hpok hxo hps hsl hdrop hne hl7 hl8 gs6
             go_upto_region 22 with fail
             rw [← HW6.out]
             have hrng : ∀ q, Value.ownBlock (.slice (some ⟨g6, k6, none⟩) (ord'.drop (k + 1)).length c6) = some q → wo.heap.size ≤ q := fun q hq => ((unhide O6).lt q hq).1
             have HRNG := hide hrng
             clear hrng
             go_wp2_with (at_builtin; refine wpList_append_tail rfl (.tmp 70) (.tmp 72) rfl rfl (x : Int) ((unhide O6).alloc _) w6.heap.size rfl ((Blk.new w6 2 #[.int .i64 (x : Int)] rfl).cell 0) (by omega) (by simp; omega) ?_; intro v7 w7 o7 g7 hb7)
             have hw6a : Below w6.heap.size w6 (w6.alloc (.cells #[.int .i64 (x : Int)] 2)) := (Below.refl _ _).alloc (Nat.le_refl _) _
             have q7 := rowIs_grown (rowIs_below (unhide Q6) hw6a) g7 (fun e => by have := (unhide HRNG) _ e; omega)
             have p7 := ((unhide P6).below hw6a (Nat.le_refl _)).grow g7 (.inr (fun e => (unhide HNE6) e.symm))
             have kp7 := (kp6.alloc (by omega) (.cells #[.int .i64 (x : Int)] 2)).grown g7 (fun q hq => .inr ((unhide HRNG) q hq)) (by simp; omega)
             have b7 := (b6.alloc (by omega) (.cells #[.int .i64 (x : Int)] 2)).grown g7 (by simp; omega) (fun q hq => by have := (unhide HRNG) q hq; omega)
             have hkz7 := kp7.1
             have b7s := b7.size
             have hpu := l00Put_any a7 c7 (sortI ord') (x : Int) w7 p7.rd (by rw [HSL.out]; omega)
             rw [HPS.out] at hpu
             have HPU := hide hpu
             have Q7 := hide q7
             have O7 := hide o7
             obtain ⟨g8, k8, c8', rfl⟩ := o7.form
             clear hpu q7 p7 o7 g7 hb7 hw6a
             go_wp2_with fail
             refine (unhide HPU).mono ?_
             rintro e w8 ⟨v8, rfl, o8, b8⟩
             have O8' := hide o8
             obtain ⟨a9, c9, rfl, _, _⟩ := o8.form
             have hsl9 := sortI_len (ord' ++ [(x : Int)])
             have HSL9 := Lib.hid hsl9
             clear o8 hsl9
             go_wp2_with fail
             go_roundw
             case rel =>
              refine ⟨i + 1, by go_num, by omega, ?_, ?_, ?_, ?_, ?_, ?_, ?_, ?_⟩
              · show ord'.length - (k + 1) + 1 + (k + 1) = (sortI (ord' ++ [(x : Int)])).length
                rw [HSL9.out, List.length_append]
                simp only [List.length_singleton]
                omega
              · rw [HST.out]
                exact HSL9.out
              · rw [HST.out, HDR.out]
                have h := (unhide O7).below b8
                rw [show (ord'.drop (k + 1) ++ [(x : Int)]).length = ord'.length - (k + 1) + 1 by rw [List.length_append, hdl]; rfl] at h
                exact h
              · rw [HST.out]
                exact (unhide O8').mono hkz7
              · intro e
                have h1 := (unhide O7).lt _ rfl
                have h2 := (unhide O8').lt _ e.symm
                omega
              · rw [HST.out]
                exact rowIs_below (unhide Q7) b8
              · exact kp7.trans (Kp.below b8 (by omega))
              · exact b7.trans (b8.mono (by omega))
             case measure => simp only [intOf]; omega
          · have hie : i = row.length := by omega
            have e7 := h7.out
            have e8 := h8.out
            have eq := hq.out
            have f8 := hl8.out
            have hvv := ordOk_len ((unhide HPART) row.length)
            rw [hie, List.take_length, ← HNX.out] at e7 e8 eq f8
            rw [List.take_length, ← HNX.out] at hvv
            have E7 := hide e7
            have E8 := hide e8
            have EQ := hide eq
            have F8 := hide f8
            have HVV := hide hvv
            have hkk : k + 1 ≤ (bfs N D v (k + 1)).length := by
             rw [HNX.out]
             exact Nat.le_trans hkl (visits_len D row ord)
            clear hie e7 e8 eq f8 h7 h8 hq hl8 hvv
            go_wp2_with fail
            go_roundw
            case rel => exact ⟨k + 1, hkk, hl7.out, by rw [unhide F8]; exact unhide HVV, E7, E8, hne, EQ, hkp, hb⟩
            case measure =>
             have h1 := hl7.out
             have h2 := unhide F8
             have h3 := unhide HVV
             have h4 := HSL.out
             have h5 := HQL.out
             simp only [lenV] at h1 h2 ⊢
             omega
       · have hkz := hkp.1
         have hcomp : comp N D v = ord := by rw [hor]; exact comp_of (unhide HOK) hvn (by rw [← hor]; exact hk) (by rw [← hor]; exact hkl)
         have hnil : ord.drop k = [] := List.drop_of_length_le (by omega)
         rw [hnil] at h7
         obtain ⟨g7, k7, c7, rfl⟩ := h7.out.form
         have HCOMP := Lib.hid hcomp
         have O8 := hide h8.out
         have H8 := hide ((unhide HO).kp hkp)
         have Q8 := hide hq.out
         have hbz := hb.size
         have HSL := Lib.hid hsl
         obtain ⟨S, hS⟩ : ∃ S, S = sortI ord := ⟨_, rfl⟩
         have HS := Lib.hid hS
         rw [← hS] at O8
         rw [← hS]
         clear hcomp hnil h7 h8 hq hord hor hsl hlv hlv8 hne hS
         go_wp2_with (at_builtin; refine wpList_append_row rfl (.tmp 77) (.tmp 79) rfl (v := u5) rfl ((unhide H8).belw ((Below.refl _ _).alloc (Nat.le_refl _) _) (by omega)) _ rfl ((Blk.new wr 22 #[.slice a8 S.length c8] rfl).cell 0) ((unhide O8).alloc _) hz3 (by simp; omega) (by have := HCL.out; omega) ?_; intro v9 w9 o9 g9 _)
         have hb9 := (hb.alloc (by omega) (.cells #[.slice a8 S.length c8] 22))
         have hh9 := ((unhide H8).belw ((Below.refl _ _).alloc (Nat.le_refl _) (.cells #[.slice a8 S.length c8] 22)) (by omega)).own
         have g9s := g9.size
         go_roundw
         case rel =>
          refine ⟨v + 1, by go_num, by omega, ?_, ?_, ?_, ?_⟩
          · rw [HST.out, HCOMP.out, ← HS.out]
            exact o9
          · rw [HST.out, HCOMP.out]
            have h := rowIs_grown (rowIs_below (unhide Q8) ((Below.refl _ _).alloc (Nat.le_refl _) (.cells #[.slice a8 S.length c8] 22))) g9 (fun e => by have := (hh9.toH.inV _ e).1; omega)
            rw [seenF_all] at h
            exact h
          · exact Below.stepS hb9 g9 hh9 (by omega) (by simp; omega)
          · simp at g9s; omega
         case measure => simp only [intOf]; omega
   · have hve : v = N.length := by omega
     have hoo := ho.out
     rw [hve, ← HR.out] at hoo
     have OO := hide hoo
     clear hve hoo ho hq
     go_wp2_with fail
     go_ret
     exact ⟨_, rfl, (unhide OO).mono (by have := d2.size; omega), d2.trans (hb.mono d2.size)⟩
end Go.Proofs.Ytohghnoihbjmcaa
