/-
  Texts joined.
-/
import Derived.Test.YtpglmogoddgmoaaJA1
import Derived.Test.YtpglmogoddgmoaaJA5
import Derived.Test.YtpglmogoddgmoaaJA7
import Derived.Test.YtpglmogoddgmoaaJA10
import Derived.Test.YtpglmogoddgmoaaJA14
import Derived.Test.YtpglmogoddgmoaaJA15
set_option linter.unusedVariables false
set_option linter.unusedSimpArgs false
set_option maxRecDepth 100000
set_option maxHeartbeats 40000000
namespace Go.Proofs.Ytpglmogoddgmoaa
open Go.RowKit
attribute [local go_sem ↓] Go.wp_at_zero Go.wp_at_succ
theorem GG.inE {n : Nat} {xs : List Int} {es : List (Int × Int)} (h : GG n xs es) : InE n es := fun e he => by
 have h1 := h.lo e he
 have h2 := h.lt e he
 have h3 := h.hi e he
 omega
theorem near_same {n : Nat} {xs : List Int} {es : List (Int × Int)} (h : GG n xs es) : (nbrA n es es.length).map sortI = nearA n (adjE es) n := by
 rw [nbrA, nearA, List.map_map, List.take_length]
 refine List.map_congr_left fun v _ => ?_
 exact near_of_sorted h (sortI_perm _) (sortI_le _)
end Go.Proofs.Ytpglmogoddgmoaa
namespace Go.Proofs.Ytpglmogoddgmoaa
open Go.RowKit
attribute [local go_sem ↓] Go.wp_at_zero Go.wp_at_succ
def around (N : List (List Int)) (cs : List Int) (v : Nat) : List Int := (nthL N v).map fun x => nth cs x.toNat
def aroundTo (row cs : List Int) (i : Nat) : List Int := (row.take i).map fun x => nth cs x.toNat
theorem aroundTo_len (row cs : List Int) {i : Nat} (h : i ≤ row.length) : (aroundTo row cs i).length = i := by simp [aroundTo]; omega
theorem aroundTo_succ {row cs : List Int} {i : Nat} (h : i < row.length) : aroundTo row cs (i + 1) = aroundTo row cs i ++ [nth cs (nth row i).toNat] := by rw [aroundTo, aroundTo, take_nth h, List.map_append]; rfl
theorem around_of (N : List (List Int)) (cs : List Int) (v : Nat) : around N cs v = aroundTo (nthL N v) cs (nthL N v).length := by rw [around, aroundTo, List.take_length]
def eqRes (xs : List Int) (es : List (Int × Int)) (cs : List Int) : Bool := okG xs es && (decide (cs.length = xs.length) && (colorsOk cs && equit (nearA xs.length (adjE es) xs.length) cs))
theorem equit_no {N : List (List Int)} {cs : List Int} {u v : Nat} (hu : u < cs.length) (hv : v < u) (hc : nth cs u = nth cs v) (hn : sortI (around N cs u) ≠ sortI (around N cs v)) : equit N cs = false := by
 rw [← Bool.not_eq_true, equit_iff]
 intro h
 have := h u v hu (by omega) hc
 rw [keyAt, keyAt] at this
 injection this with _ h2
 exact hn h2
theorem equit_yes {N : List (List Int)} {cs : List Int} (h : ∀ u, u < cs.length → ∀ v, v < u → nth cs u = nth cs v → sortI (around N cs u) = sortI (around N cs v)) : equit N cs = true := by
 rw [equit_iff]
 intro u v hu hv hc
 have key : ∀ u v, u < cs.length → v < u → nth cs u = nth cs v → keyAt N cs u = keyAt N cs v := fun u v hu hv hc => by
  rw [keyAt, keyAt, hc]
  congr 1
  exact h u hu v hv hc
 rcases Nat.lt_trichotomy u v with h' | rfl | h'
 · exact (key v u hv h' hc.symm).symm
 · rfl
 · exact key u v hu h' hc
theorem specEQ_any (a : Option Addr) (c : Nat) (xs : List Int) (ra : Option Addr) (rc : Nat) (es : List (Int × Int)) (pa : Option Addr) (pc : Nat) (cs : List Int) (w : World) (hx : Rd w a xs) (hes : RdE w ra es) (hp : Rd w pa cs) :
    Calls Try.prog 46 #[.agg #[.slice a xs.length c, .slice ra es.length rc], .slice pa cs.length pc] w fun e w' => e = .returned (.bool (eqRes xs es cs)) ∧ Below w.heap.size w w' := by
 have hxl := hx.len
 have hel := hes.len
 have hpl := hp.len
 generalize hR : eqRes xs es cs = r
 obtain ⟨w0, hw0⟩ : ∃ w0, w0 = w.alloc (.cells #[.slice a xs.length c, .slice ra es.length rc] 74) := ⟨_, rfl⟩
 have hb0 : Below w.heap.size w w0 := by rw [hw0]; exact (Below.refl _ _).alloc (Nat.le_refl _) _
 have kA : Blk w0 w.heap.size 74 #[.slice a xs.length c, .slice ra es.length rc] := by rw [hw0]; exact Blk.new _ _ _ rfl
 have s0 : w0.heap.size = w.heap.size + 1 := by rw [hw0]; simp
 have BA := hide (show ∀ W, Below w0.heap.size w0 W → Blk W w.heap.size 74 #[.slice a xs.length c, .slice ra es.length rc] from fun W h => kA.below h kA.lt)
 have HX := hide (hx.below hb0)
 have HES := hide (hes.below hb0)
 have f0 := kA.cell 0
 have f1 := kA.cell 1
 rw [hw0] at f0 f1
 have HW := Lib.hid hw0
 have HP := hide (hp.below hb0)
 have hv := l21Ok_any a ra c rc xs es w0 (unhide HX) (unhide HES)
 have hcl := fun W (h : Below w0.heap.size w0 W) => l21Colors_any pa pc cs W ((unhide HP).below h)
 cases hk : okG xs es with
 | false =>
  have HN := Lib.hid (show r = false by rw [← hR, eqRes, hk]; rfl)
  rw [hk] at hv
  have HV := hide hv
  clear hv hk hR hw0 hp hcl
  go_enter Try.func46, Try.ntmps46
  go_wp2_with fail
  rw [← HW.out]
  refine (unhide HV).mono ?_
  rintro e w1 ⟨rfl, b1⟩
  go_wp2_with fail
  go_ret
  exact ⟨by rw [HN.out]; rfl, hb0.trans (b1.mono hb0.size)⟩
 | true =>
  have hG := okG_iff.1 hk
  have hn64 := hG.n64
  have hm := hG.m512
  rw [hk] at hv
  have HV := hide hv
  by_cases hlen : cs.length = xs.length
  case neg =>
   have HN := Lib.hid (show r = false by rw [← hR, eqRes, hk, decide_eq_false hlen]; rfl)
   have hne : ((cs.length : Int) != (xs.length : Int)) = true := by rw [bne_iff_ne]; omega
   clear hv hk hR hw0 hp hcl hlen
   go_enter Try.func46, Try.ntmps46
   go_wp2_with fail
   rw [← HW.out]
   refine (unhide HV).mono ?_
   rintro e w1 ⟨rfl, b1⟩
   clear f0 f1
   have k1 := unhide BA w1 (b1)
   have f0 := k1.cell 0
   have f1 := k1.cell 1
   go_wp2_with fail
   go_ret
   exact ⟨by rw [HN.out]; rfl, hb0.trans (b1.mono hb0.size)⟩
  have hne : ((cs.length : Int) != (xs.length : Int)) = false := by rw [bne_eq_false_iff_eq]; omega
  cases hck : colorsOk cs with
  | false =>
   have HN := Lib.hid (show r = false by rw [← hR, eqRes, hk, hck, decide_eq_true hlen]; rfl)
   rw [hck] at hcl
   have HCL := hide hcl
   clear hv hk hR hw0 hp hcl hlen hck
   go_enter Try.func46, Try.ntmps46
   go_wp2_with fail
   rw [← HW.out]
   refine (unhide HV).mono ?_
   rintro e w1 ⟨rfl, b1⟩
   clear f0 f1
   have k1 := unhide BA w1 (b1)
   have f0 := k1.cell 0
   have f1 := k1.cell 1
   go_wp2_with fail
   refine (unhide HCL _ b1).mono ?_
   rintro e w2 ⟨rfl, rfl⟩
   go_wp2_with fail
   go_ret
   exact ⟨by rw [HN.out]; rfl, hb0.trans (b1.mono hb0.size)⟩
  | true =>
   rw [hck] at hcl
   have HCL := hide hcl
   obtain ⟨N, hN⟩ : ∃ N, N = nearA xs.length (adjE es) xs.length := ⟨_, rfl⟩
   have hNl : N.length = xs.length := by rw [hN, nearA_len]
   have hok : NOk N := by rw [hN]; exact near_ok _ _
   have HR := Lib.hid (show r = equit N cs by rw [← hR, eqRes, hk, hck, decide_eq_true hlen, ← hN]; rfl)
   have hnb : ∀ W, Below w0.heap.size w0 W → Calls Try.prog 100 #[.agg #[.slice a xs.length c, .slice ra es.length rc]] W fun e w' => ∃ v, e = .returned v ∧ OwnS w' W.heap.size v N ∧ Below W.heap.size W w' := fun W h => by
    rw [hN]
    exact l21Near_any a xs.length c ra rc es W (by omega) ((unhide HES).below h) hG.inE
   have HNB := hide hnb
   have hll : ∀ k, k < N.length → (nthL N k).length ≤ 64 := fun k hk => by
    rw [hN, nearA_nth _ (by omega)]
    exact Nat.le_trans (nearT_len _ _ _) hn64
   have HLL := hide hll
   have HOK := hide hok
   have hCN : cs.length = N.length := by omega
   have HCN := Lib.hid hCN
   have hn64' : N.length ≤ 64 := by omega
   have hpx : ∀ W, Below w0.heap.size w0 W → ∀ i, i < N.length → ∃ b1 o1, pa = some ⟨b1, o1, none⟩ ∧ W.cell? ⟨b1, o1 + i, none⟩ = some (.int .i64 (nth cs i)) := fun W h i hi => by
    obtain ⟨b1, o1, e, hb, hc⟩ := (unhide HP).at_ (by omega)
    exact ⟨b1, o1, e, (h.cell (p := ⟨b1, o1 + i, none⟩) hb).trans (hc i (by omega))⟩
   have HPX := hide hpx
   clear hv hk hR hw0 hnb hll hok hG hN hNl hp hcl hlen hck hpx hCN
   go_enter Try.func46, Try.ntmps46
   go_wp2_with fail
   rw [← HW.out]
   refine (unhide HV).mono ?_
   rintro e w1 ⟨rfl, b1⟩
   clear f0 f1
   have k1 := unhide BA w1 (b1)
   have f0 := k1.cell 0
   have f1 := k1.cell 1
   go_wp2_with fail
   refine (unhide HCL _ b1).mono ?_
   rintro e w1' ⟨rfl, rfl⟩
   go_wp2_with fail
   refine (unhide HNB _ b1).mono ?_
   rintro e w2 ⟨v2, rfl, o2, b2⟩
   obtain ⟨la, lc, rfl, r2⟩ := o2.form
   have d1 := Below.chain b1 b2
   have R2 := hide r2
   have hpl' : N.length ≤ 1073741824 := by omega
   rw [HCN.out]
   clear o2 r2 f0 f1 k1 hpl hne
   go_wp2_with fail
   go_loopw [6] (fun iv wr => ∃ u : Nat, iv = .int .i64 u ∧ u ≤ N.length ∧ Below w2.heap.size w2 wr ∧ Hid (∀ u', u' < u → ∀ v, v < u' → nth cs u' = nth cs v → sortI (around N cs u') = sortI (around N cs v))) (fun iv _ => N.length - (intOf iv).toNat)
   case atStart => exact ⟨0, rfl, Nat.zero_le _, Below.refl _ _, fun k hk => by omega⟩
   case round =>
    obtain ⟨u, rfl, hu, hb, hq⟩ := hrel
    by_cases hun : u < N.length
    · go_wp2_with fail
      go_loopw [7] (fun iv wr => ∃ v : Nat, iv = .int .i64 v ∧ v ≤ u ∧ Below w2.heap.size w2 wr ∧ Hid (∀ v', v' < v → nth cs u = nth cs v' → sortI (around N cs u) = sortI (around N cs v'))) (fun iv _ => u - (intOf iv).toNat)
      case atStart => exact ⟨0, rfl, Nat.zero_le _, hb, fun k hk => by omega⟩
      case round =>
       obtain ⟨v, rfl, hv, hb, hqv⟩ := hrel
       have hsz := hb.size
       by_cases hvu : v < u
       · have hb0' : Below w0.heap.size w0 _ := d1.trans (hb.mono d1.size)
         obtain ⟨pb, po, rfl, g1⟩ := unhide HPX _ hb0' u hun
         obtain ⟨_, _, he, g2⟩ := unhide HPX _ hb0' v (by omega)
         injection he with he
         injection he with he1 he2
         subst he1 he2
         obtain ⟨x, hx⟩ : ∃ x, x = nth cs u := ⟨_, rfl⟩
         obtain ⟨y, hy⟩ : ∃ y, y = nth cs v := ⟨_, rfl⟩
         rw [← hx] at g1
         rw [← hy] at g2
         have hvn : v < N.length := by omega
         by_cases hxy : x = y
         case neg =>
          have e1 : (x != y) = true := by simpa using hxy
          have HXY := hide (show nth cs u ≠ nth cs v by rw [← hx, ← hy]; exact hxy)
          clear hx hy hxy
          go_upto_region 10 with fail
          go_quiet (fail)
          go_wp2_with fail
          go_roundw
          case rel =>
           refine ⟨v + 1, by go_num, by omega, hb.trans (Qt.below ⟨_, rfl⟩ _), fun v' hv' hc => ?_⟩
           rcases Nat.lt_succ_iff_lt_or_eq.1 hv' with h | rfl
           · exact hqv.out v' h hc
           · exact absurd hc (unhide HXY)
          case measure => simp only [intOf]; omega
         have e1 : (x != y) = false := by simpa using hxy
         have HXY := Lib.hid (show nth cs u = nth cs v by rw [← hx, ← hy]; exact hxy)
         obtain ⟨nb, no, rfl, hnb, hnc⟩ := (unhide R2).at_ (by omega)
         obtain ⟨au, cu, hlu, hru⟩ := hnc u hun
         obtain ⟨av, cv, hlv, hrv⟩ := hnc v hvn
         have hinu := (unhide HOK) u hun
         have hinv := (unhide HOK) v hvn
         have hau := around_of N cs u
         have hav := around_of N cs v
         have hlu6 := (unhide HLL) u hun
         have hlv6 := (unhide HLL) v hvn
         obtain ⟨ru, hru'⟩ : ∃ ru, ru = nthL N u := ⟨_, rfl⟩
         obtain ⟨rv, hrv'⟩ : ∃ rv, rv = nthL N v := ⟨_, rfl⟩
         rw [← hru'] at hlu hru hinu hau hlu6
         rw [← hrv'] at hlv hrv hinv hav hlv6
         have HLU := hide hlu
         have HLV := hide hlv
         have HRU := hide hru
         have HRV := hide hrv
         have HIU := hide hinu
         have HIV := hide hinv
         have HAU := Lib.hid hau
         have HAV := Lib.hid hav
         rename World => wo
         clear hx hy hxy hnc hlu hlv hru hrv hinu hinv hau hav hru' hrv'
         go_upto_region 10 with fail
         go_quiet (fail)
         go_upto_region 12 with fail
         obtain ⟨w3, hw3⟩ : ∃ z, z = (wo.drewN nq).alloc (.cells #[] 2) := ⟨_, rfl⟩
         have b3 : Below wo.heap.size wo w3 := by rw [hw3]; exact (Qt.below ⟨_, rfl⟩ _ : Below wo.heap.size wo (wo.drewN nq)).alloc (by simp) _
         have o3 : Own w3 wo.heap.size (.slice (some ⟨wo.heap.size, 0, none⟩) 0 0) (aroundTo ru cs 0) := by rw [hw3]; exact Own.empty (wo.drewN nq) (by simp)
         have O3 := hide o3
         have HW3 := Lib.hid hw3
         have d3 := hb.trans (b3.mono hsz)
         clear o3 hw3 g1 g2
         rw [← HW3.out]
         go_wp2_with fail
         go_loopw [8, 9] (fun v8 iv wr => ∃ i : Nat, iv = .int .i64 i ∧ i ≤ ru.length ∧ Hid (Own wr wo.heap.size v8 (aroundTo ru cs i)) ∧ Below wo.heap.size wo wr) (fun _ iv _ => ru.length - (intOf iv).toNat)
         case atStart => exact ⟨0, rfl, Nat.zero_le _, O3, b3⟩
         case round =>
          obtain ⟨i, rfl, hi, ho, hb3⟩ := hrel
          have hsz3 := hb3.size
          have hbw := hb.trans (hb3.mono hb.size)
          have hl1 := (hbw.cell (p := ⟨nb, no + u, none⟩) hnb).trans (unhide HLU)
          by_cases hil : i < ru.length
          · obtain ⟨rb, ro, rfl, hrb, hrc⟩ := (unhide HRU).at_ (by omega)
            have hx1 := (hbw.cell (p := ⟨rb, ro + i, none⟩) hrb).trans (hrc i hil)
            have hst := aroundTo_succ (cs := cs) hil
            have hxr := (unhide HIU) _ (nth_mem hil)
            obtain ⟨k, hk⟩ : ∃ k : Nat, nth ru i = (k : Int) := ⟨(nth ru i).toNat, by omega⟩
            rw [hk] at hx1 hst hxr
            rw [Int.toNat_natCast] at hst
            have hkn : k < N.length := by omega
            obtain ⟨_, _, he, g3⟩ := unhide HPX _ (d1.trans (hbw.mono d1.size)) k hkn
            injection he with he
            injection he with he1 he2
            subst he1 he2
            obtain ⟨z, hz⟩ : ∃ z, z = nth cs k := ⟨_, rfl⟩
            rw [← hz] at g3 hst
            have hal := aroundTo_len ru cs hi
            obtain ⟨L, hL⟩ : ∃ L, L = aroundTo ru cs i := ⟨_, rfl⟩
            rw [← hL] at ho hst hal
            have HST := Lib.hid hst
            have HAL := Lib.hid hal
            obtain ⟨a8, c8, rfl, _, _⟩ := ho.out.form
            have OL := hide ho.out
            clear hrc hst hk hz hal hL ho
            go_wp2_with (at_builtin; refine wpList_append_ints rfl (.tmp 60) (.tmp 71) rfl wo.heap.size _ L [z] rfl ((unhide OL).alloc _) _ 1 1 rfl rfl (Rd.one wr z _) (by rw [HAL.out]; simp; omega) (by simp; omega) ?_; intro v5 w5 o5 g5 _)
            go_roundw
            case rel => exact ⟨i + 1, by go_num, by omega, by rw [HST.out]; exact o5, (hb3.alloc (by omega) _).grown g5 (by simp; omega) (fun q hq => ((unhide OL).lt q hq).1)⟩
            case measure => simp only [intOf]; omega
          · have hie : i = ru.length := by omega
            have hoo := ho.out
            rw [hie] at hoo
            rw [hie]
            rw [← HAU.out] at hoo
            obtain ⟨AL, hAL⟩ : ∃ AL, AL = around N cs u := ⟨_, rfl⟩
            rw [← hAL] at hoo
            obtain ⟨aA, cA, rfl, _, _⟩ := hoo.form
            have hal : AL.length = ru.length := by rw [hAL, HAU.out, aroundTo_len _ _ (Nat.le_refl _)]
            have HALEN := Lib.hid hal
            have HALN := Lib.hid hAL
            have OA := hide hoo
            have hbwa := hbw
            rename World => wa
            clear hoo hal hAL ho hie
            go_upto_region 17 with fail
            obtain ⟨w4, hw4⟩ : ∃ z, z = wa.alloc (.cells #[] 2) := ⟨_, rfl⟩
            have b4 : Below wa.heap.size wa w4 := by rw [hw4]; exact (Below.refl _ _).alloc (Nat.le_refl _) _
            have O4 := hide (show Own w4 wa.heap.size (.slice (some ⟨wa.heap.size, 0, none⟩) 0 0) (aroundTo rv cs 0) by rw [hw4]; exact Own.empty wa (Nat.le_refl _))
            rw [← hw4]
            clear hw4
            go_wp2_with fail
            go_loopw [10, 11] (fun v8 iv wr => ∃ i : Nat, iv = .int .i64 i ∧ i ≤ rv.length ∧ Hid (Own wr wa.heap.size v8 (aroundTo rv cs i)) ∧ Below wa.heap.size wa wr) (fun _ iv _ => rv.length - (intOf iv).toNat)
            case atStart => exact ⟨0, rfl, Nat.zero_le _, O4, b4⟩
            case round =>
             obtain ⟨i, rfl, hi, ho, hb3⟩ := hrel
             have hsz3 := hb3.size
             have hbw := hbwa.trans (hb3.mono hbwa.size)
             have hl1 := (hbw.cell (p := ⟨nb, no + v, none⟩) hnb).trans (unhide HLV)
             by_cases hil : i < rv.length
             · obtain ⟨rb, ro, rfl, hrb, hrc⟩ := (unhide HRV).at_ (by omega)
               have hx1 := (hbw.cell (p := ⟨rb, ro + i, none⟩) hrb).trans (hrc i hil)
               have hst := aroundTo_succ (cs := cs) hil
               have hxr := (unhide HIV) _ (nth_mem hil)
               obtain ⟨k, hk⟩ : ∃ k : Nat, nth rv i = (k : Int) := ⟨(nth rv i).toNat, by omega⟩
               rw [hk] at hx1 hst hxr
               rw [Int.toNat_natCast] at hst
               have hkn : k < N.length := by omega
               obtain ⟨_, _, he, g3⟩ := unhide HPX _ (d1.trans (hbw.mono d1.size)) k hkn
               injection he with he
               injection he with he1 he2
               subst he1 he2
               obtain ⟨z, hz⟩ : ∃ z, z = nth cs k := ⟨_, rfl⟩
               rw [← hz] at g3 hst
               have hal := aroundTo_len rv cs hi
               obtain ⟨L, hL⟩ : ∃ L, L = aroundTo rv cs i := ⟨_, rfl⟩
               rw [← hL] at ho hst hal
               have HST := Lib.hid hst
               have HAL := Lib.hid hal
               obtain ⟨a8, c8, rfl, _, _⟩ := ho.out.form
               have OL := hide ho.out
               clear hrc hst hk hz hal hL ho
               go_wp2_with (at_builtin; refine wpList_append_ints rfl (.tmp 83) (.tmp 94) rfl wa.heap.size _ L [z] rfl ((unhide OL).alloc _) _ 1 1 rfl rfl (Rd.one wr z _) (by rw [HAL.out]; simp; omega) (by simp; omega) ?_; intro v5 w5 o5 g5 _)
               go_roundw
               case rel => exact ⟨i + 1, by go_num, by omega, by rw [HST.out]; exact o5, (hb3.alloc (by omega) _).grown g5 (by simp; omega) (fun q hq => ((unhide OL).lt q hq).1)⟩
               case measure => simp only [intOf]; omega
             · have hie : i = rv.length := by omega
               have hoo := ho.out
               rw [hie] at hoo
               rw [hie]
               rw [← HAV.out] at hoo
               obtain ⟨BL, hBL⟩ : ∃ BL, BL = around N cs v := ⟨_, rfl⟩
               rw [← hBL] at hoo
               obtain ⟨aB, cB, rfl, rB, _⟩ := hoo.form
               have hbl : BL.length = rv.length := by rw [hBL, HAV.out, aroundTo_len _ _ (Nat.le_refl _)]
               have hal : AL.length = ru.length := HALEN.out
               have rA := ((unhide OA).below hb3 (Nat.le_refl _)).rd
               have hs1 := l21Sorted_any aA cA AL _ rA (by omega)
               have hs2 := fun W (h : Below wr.heap.size wr W) => l21Sorted_any aB cB BL W (rB.below h) (by omega)
               have HS1 := hide hs1
               have HS2 := hide hs2
               have HBL := Lib.hid hBL
               have z4 := hbw.size
               clear hoo rB rA hs1 hs2 hal hbl hie hBL ho
               go_wp2_with fail
               refine (unhide HS1).mono ?_
               rintro e w7 ⟨v7, rfl, o7, b7⟩
               obtain ⟨a7, c7, rfl, r7, _⟩ := o7.form
               have R7 := hide r7
               clear o7 r7
               go_wp2_with fail
               refine (unhide HS2 _ b7).mono ?_
               rintro e w8 ⟨v8, rfl, o8, b8⟩
               obtain ⟨a8, c8, rfl, r8, _⟩ := o8.form
               have hsm := l00Same_any a7 a8 c7 c8 (sortI AL) (sortI BL) w8 ((unhide R7).below b8) r8
               have HSM := hide hsm
               have d8 := hbw.trans ((Below.chain b7 b8).mono z4)
               clear o8 r8 hsm
               by_cases hse : sortI AL = sortI BL
               · rw [decide_eq_true hse] at HSM
                 have HSE := Lib.hid (show sortI (around N cs u) = sortI (around N cs v) by rw [← HALN.out, ← HBL.out]; exact hse)
                 clear hse
                 go_wp2_with fail
                 refine (unhide HSM).mono ?_
                 rintro e w9 ⟨rfl, q9⟩
                 go_wp2_with fail
                 go_roundw
                 case rel =>
                  refine ⟨v + 1, by go_num, by omega, d8.trans (q9.below _), fun v' hv' hc => ?_⟩
                  rcases Nat.lt_succ_iff_lt_or_eq.1 hv' with h | rfl
                  · exact hqv.out v' h hc
                  · exact HSE.out
                 case measure => simp only [intOf]; omega
               · rw [decide_eq_false hse] at HSM
                 have hno : r = false := by rw [HR.out]; exact equit_no (by rw [HCN.out]; exact hun) hvu HXY.out (by rw [← HALN.out, ← HBL.out]; exact hse)
                 have HNO := Lib.hid hno
                 clear hse hno
                 go_wp2_with fail
                 refine (unhide HSM).mono ?_
                 rintro e w9 ⟨rfl, q9⟩
                 go_wp2_with fail
                 go_ret
                 exact ⟨by rw [HNO.out]; rfl, hb0.trans ((d1.trans ((d8.trans (q9.below _)).mono d1.size)).mono hb0.size)⟩
       · have hve : v = u := by omega
         have HVE := Lib.hid hve
         clear hve
         go_wp2_with fail
         go_roundw
         case rel =>
          refine ⟨u + 1, by go_num, by omega, hb, fun u' hu' v' hv' hc => ?_⟩
          rcases Nat.lt_succ_iff_lt_or_eq.1 hu' with h | rfl
          · exact hq.out u' h v' hv' hc
          · exact hqv.out v' (by rw [HVE.out]; exact hv') hc
         case measure => simp only [intOf]; omega
    · have hue : u = N.length := by omega
      have hyes : r = true := by rw [HR.out]; exact equit_yes fun u' hu' v' hv' hc => hq.out u' (by rw [hue, ← HCN.out]; exact hu') v' hv' hc
      have HY := Lib.hid hyes
      clear hue hyes
      go_wp2_with fail
      go_ret
      exact ⟨by rw [HY.out]; rfl, hb0.trans ((d1.trans (hb.mono d1.size)).mono hb0.size)⟩
end Go.Proofs.Ytpglmogoddgmoaa
namespace Go.Proofs.Ytpglmogoddgmoaa
open Go.RowKit
attribute [local go_sem ↓] Go.wp_at_zero Go.wp_at_succ
theorem Own.lit1 (w : World) (x : Int) : Own (w.alloc (.cells #[.int .i64 x] 2)) w.heap.size (.slice (some ⟨w.heap.size, 0, none⟩) 1 1) [x] := ⟨by simp, World.ownsRow_lit w #[.int .i64 x] 1 (Nat.le_refl _) (by unfold maxLen; omega) rfl⟩
end Go.Proofs.Ytpglmogoddgmoaa
