/-
  Texts joined.
-/
import Derived.Test.YtgfcbmflnldicaaGreatRF7
import Derived.Test.YtgfcbmflnldicaaGreatRF13
import Derived.Test.YtgfcbmflnldicaaGreatRF17
import Derived.Test.YtgfcbmflnldicaaGreatRF23
import Derived.Test.YtgfcbmflnldicaaGreatRF25
set_option linter.unusedVariables false
set_option linter.unusedSimpArgs false
set_option maxRecDepth 100000
set_option maxHeartbeats 40000000
namespace Go.Proofs.YtgfcbmflnldicaaGreat
open Go.RowKit
attribute [local go_sem ↓] Go.wp_at_zero Go.wp_at_succ
def listOf (w : World) : Value → List Int
 | .slice (some ⟨b, off, none⟩) n _ => (List.range n).map fun i => intOf ((w.cell? ⟨b, off + i, none⟩).getD undef)
 | _ => []
theorem listOf_rd {w : World} {a : Option Addr} {xs : List Int} (c : Nat) (h : Rd w a xs) : listOf w (.slice a xs.length c) = xs := by
 by_cases h0 : 0 < xs.length
 · obtain ⟨b, off, rfl, _, hc⟩ := h.at_ h0
   refine List.ext_getElem (by simp [listOf]) fun i h1 h2 => ?_
   simp only [listOf, List.getElem_map, List.getElem_range]
   rw [hc i h2, nth_lt h2]
   rfl
 · have : xs = [] := List.eq_nil_of_length_eq_zero (by omega)
   subst this
   rcases a with _ | ⟨b, off, _ | _⟩ <;> rfl
def fuelOf (n : Nat) (w : World) (v : Value) : Nat := n - many (listOf w v)
theorem refine_any (la : Option Addr) (lc : Nat) (N : List (List Int)) (pa : Option Addr) (pc : Nat) (cs : List Int) (w : World) (hN : RdS w la N) (hp : Rd w pa cs) (hl : cs.length = N.length) (hn : N.length ≤ 64) (hok : NOk N) (hll : ∀ k, k < N.length → (nthL N k).length ≤ 64) :
    Calls Tryz.prog 51 #[.slice la N.length lc, .slice pa cs.length pc] w fun e w' => ∃ v, e = .returned v ∧ Own w' w.heap.size v (refF N cs.length cs) ∧ Below w.heap.size w w' := by
 obtain ⟨n, hnn⟩ : ∃ n, n = cs.length := ⟨_, rfl⟩
 have HK := hide (fun (a : Option Addr) (c : Nat) (C : List Int) W (h : Below w.heap.size w W) (hC : Rd W a C) (hCl : C.length = n) => keys_any la lc N a c C W (hN.below h) hC (by omega) hn hok hll)
 have hfn : cs.length ≤ cs.length + many cs := Nat.le_add_right _ _
 obtain ⟨R, hR⟩ : ∃ R, R = refF N cs.length cs := ⟨_, rfl⟩
 have HR0 := Lib.hid hR
 rw [← hR]
 have hst : ∃ (f : Nat) (C : List Int) (a : Option Addr) (c : Nat), Value.slice pa cs.length pc = .slice a n c ∧ Hid (Rd w a C) ∧ Hid (C.length = n) ∧ Hid (refF N f C = R) ∧ Hid (n ≤ f + many C) := ⟨cs.length, cs, pa, pc, by rw [hnn], hp, hnn.symm, hR.symm, by rw [hnn]; exact hfn⟩
 rw [← hnn] at hst ⊢
 have HST := hide hst
 have hNl : n ≤ 64 := by omega
 clear hN hp hl hn hok hll hnn hR hfn hst HR0
 go_enter Tryz.func51, Tryz.ntmps51
 go_wp2_with fail
 go_loopw [1, 5] (fun v nx wr => ∃ (f : Nat) (C : List Int) (a : Option Addr) (c : Nat), v = .slice a n c ∧ Hid (Rd wr a C) ∧ Hid (C.length = n) ∧ Hid (refF N f C = R) ∧ Hid (n ≤ f + many C) ∧ Below w.heap.size w wr) (fun v _ wr => fuelOf n wr v)
 case atStart =>
  obtain ⟨f, C, a, c, h1, h2, h3, h4, h5⟩ := unhide HST
  exact ⟨f, C, a, c, h1, h2, h3, h4, h5, Below.refl _ _⟩
 case round =>
  obtain ⟨f, C, a, c, rfl, hC, hCl, hRe, hf, hb⟩ := hrel
  have hsz := hb.size
  rename World => wo
  have hkk := (unhide HK) a c C wo hb hC.out hCl.out
  have hml := many_len C
  rw [hCl.out] at hkk hml
  have hrl := roundT_len N C
  rw [hCl.out] at hrl
  have hst := refF_stop (near := N) (C := C)
  have hgo := refF_go (near := N) (C := C)
  have hmr := many_round N C
  have hlo := listOf_rd c hC.out
  rw [hCl.out] at hlo
  have hcc := fun W (h : Below wo.heap.size wo W) => cellCount_any a c C W (hC.out.below h)
  rw [hCl.out] at hcc
  obtain ⟨K, hK⟩ : ∃ K, K = roundT N C := ⟨_, rfl⟩
  rw [← hK] at hkk hrl hst hgo hmr
  have hmlK := many_len K
  rw [hrl] at hmlK
  have HKK := hide hkk
  have HKL := Lib.hid hrl
  have HCC := hide hcc
  have HLO := Lib.hid hlo
  have HSTOP := hide hst
  have HGO := hide hgo
  have hmC : (many C : Int) ≤ 64 := by omega
  have hmK : (many K : Int) ≤ 64 := by omega
  clear hkk hrl hcc hlo hst hgo hK hC
  go_wp2_with fail
  refine (unhide HKK).mono ?_
  rintro e w1 ⟨v1, rfl, o1, b1⟩
  obtain ⟨ka, kc, rfl, r1, _⟩ := o1.form
  rw [HKL.out] at o1 ⊢
  have hc1 := cellCount_any ka kc K w1 r1
  rw [HKL.out] at hc1
  have HC1 := hide hc1
  have O1 := hide o1
  have R1 := hide r1
  clear hc1 o1 r1
  go_wp2_with fail
  refine (unhide HC1).mono ?_
  rintro e w2 ⟨rfl, b2⟩
  have b12 := b1.trans (b2.mono b1.size)
  go_wp2_with fail
  refine (unhide HCC _ b12).mono ?_
  rintro e w3 ⟨rfl, b3⟩
  have b13 := b12.trans (b3.mono b12.size)
  have hb3 := hb.trans (b13.mono hsz)
  have O3 := hide (((unhide O1).below b2 (Nat.le_refl _)).below b3 (Nat.le_refl _))
  have R3 := hide (((unhide R1).below b2).below b3)
  obtain ⟨mC, hMC⟩ : ∃ mC, mC = many C := ⟨_, rfl⟩
  obtain ⟨mK, hMK⟩ : ∃ mK, mK = many K := ⟨_, rfl⟩
  rw [← hMC, ← hMK]
  by_cases hq : mK = mC
  · have e1 : ((mK : Int) == (mC : Int)) = true := by rw [hq]; simp
    have hRR : R = K := by rw [← hRe.out]; exact (unhide HSTOP) (by rw [← hMC, ← hMK]; exact hq) f
    have HRR := Lib.hid hRR
    clear hq hRR
    go_wp2
    go_ret
    exact ⟨_, rfl, by rw [HRR.out]; exact (unhide O3).mono hsz, hb3⟩
  · have e1 : ((mK : Int) == (mC : Int)) = false := by rw [beq_eq_false_iff_ne]; omega
    have hf' := hf.out
    obtain ⟨f', rfl⟩ : ∃ f', f = f' + 1 := by
     rcases f with _ | f'
     · exfalso; omega
     · exact ⟨f', rfl⟩
    have hRR : refF N f' K = R := by rw [← (unhide HGO) (by rw [← hMC, ← hMK]; exact hq) f']; exact hRe.out
    have HRR := Lib.hid hRR
    have hlK := listOf_rd kc (unhide R3)
    rw [HKL.out] at hlK
    have HLK := Lib.hid hlK
    have HMC := Lib.hid hMC
    have HMK := Lib.hid hMK
    have HF := Lib.hid (show n ≤ f' + mK by omega)
    have hlt : mC < mK := by omega
    have hmn : mK ≤ n := by omega
    clear hq hRR hlK hMC hMK hf'
    go_wp2
    go_roundw
    case rel => exact ⟨f', K, ka, kc, rfl, unhide R3, HKL, HRR, by show n ≤ f' + many K; rw [← HMK.out]; exact HF.out, hb3⟩
    case measure =>
     simp only [fuelOf]
     rw [HLO.out, HLK.out, ← HMC.out, ← HMK.out]
     omega
def rcRes (xs : List Int) (es : List (Int × Int)) (cs : List Int) : List Int × Int := if okG xs es = true then (if (decide (cs.length = xs.length) && colorsOk cs) = true then (refF (nearA xs.length (adjE es) xs.length) cs.length cs, 0) else ([], 2)) else ([], 1)
theorem implRC_any (a : Option Addr) (c : Nat) (xs : List Int) (ra : Option Addr) (rc : Nat) (es : List (Int × Int)) (pa : Option Addr) (pc : Nat) (cs : List Int) (w : World) (hx : Rd w a xs) (hes : RdE w ra es) (hp : Rd w pa cs) :
    Calls Tryz.prog 9 #[.agg #[.slice a xs.length c, .slice ra es.length rc], .slice pa cs.length pc] w (ResL w (rcRes xs es cs)) := by
 have hxl := hx.len
 have hel := hes.len
 have hpl := hp.len
 generalize hR : rcRes xs es cs = r
 obtain ⟨w0, hw0⟩ : ∃ w0, w0 = w.alloc (.cells #[.slice a xs.length c, .slice ra es.length rc] 27) := ⟨_, rfl⟩
 have hb0 : Below w.heap.size w w0 := by rw [hw0]; exact (Below.refl _ _).alloc (Nat.le_refl _) _
 have kA : Blk w0 w.heap.size 27 #[.slice a xs.length c, .slice ra es.length rc] := by rw [hw0]; exact Blk.new _ _ _ rfl
 have s0 : w0.heap.size = w.heap.size + 1 := by rw [hw0]; simp
 have BA := hide (show ∀ W, Below w0.heap.size w0 W → Blk W w.heap.size 27 #[.slice a xs.length c, .slice ra es.length rc] from fun W h => kA.below h kA.lt)
 have HX := hide (hx.below hb0)
 have HES := hide (hes.below hb0)
 have f0 := kA.cell 0
 have f1 := kA.cell 1
 rw [hw0] at f0 f1
 have HW := Lib.hid hw0
 have HP := hide (hp.below hb0)
 have hv := implValidGraph_any a ra c rc xs es w0 (unhide HX) (unhide HES)
 have hac := fun W (h : Below w0.heap.size w0 W) => areCells_any a xs.length c (.slice ra es.length rc) pa pc cs W ((unhide HP).below h)
 cases hk : okG xs es with
 | false =>
  have HN := Lib.hid (show r = ([], 1) by rw [← hR, rcRes, hk]; rfl)
  rw [hk] at hv
  have HV := hide hv
  clear hv hk hR hw0 hp hac
  go_enter Tryz.func9, Tryz.ntmps9
  go_wp2_with fail
  rw [← HW.out]
  refine (unhide HV).mono ?_
  rintro e w1 ⟨rfl, b1⟩
  clear f0 f1
  have k1 := unhide BA w1 b1
  have f0 := k1.cell 0
  have f1 := k1.cell 1
  go_wp2
  go_ret2
  rw [HN.out]
  exact ⟨_, rfl, Own.nil _ _, hb0.trans (b1.mono hb0.size)⟩
 | true =>
  have hG := okG_iff.1 hk
  have hn64 := hG.n64
  have hm := hG.m512
  rw [hk] at hv
  have HV := hide hv
  cases hck : (decide (cs.length = xs.length) && colorsOk cs) with
  | false =>
   have HN := Lib.hid (show r = ([], 2) by rw [← hR, rcRes, hk, hck]; rfl)
   rw [hck] at hac
   have HAC := hide hac
   clear hv hk hR hw0 hp hac hck
   go_enter Tryz.func9, Tryz.ntmps9
   go_wp2_with fail
   rw [← HW.out]
   refine (unhide HV).mono ?_
   rintro e w1 ⟨rfl, b1⟩
   clear f0 f1
   have k1 := unhide BA w1 b1
   have f0 := k1.cell 0
   have f1 := k1.cell 1
   go_wp2_with fail
   refine (unhide HAC _ b1).mono ?_
   rintro e w2 ⟨rfl, b2⟩
   go_wp2
   go_ret2
   rw [HN.out]
   exact ⟨_, rfl, Own.nil _ _, hb0.trans ((b1.trans (b2.mono b1.size)).mono hb0.size)⟩
  | true =>
   have hRR : r = (refF (nearA xs.length (adjE es) xs.length) cs.length cs, 0) := by rw [← hR, rcRes, hk, hck]; rfl
   rw [hck] at hac
   have HAC := hide hac
   simp only [Bool.and_eq_true, decide_eq_true_eq] at hck
   obtain ⟨hlen, hco⟩ := hck
   obtain ⟨N, hN⟩ : ∃ N, N = nearA xs.length (adjE es) xs.length := ⟨_, rfl⟩
   have hNl : N.length = xs.length := by rw [hN, nearA_len]
   have hok : NOk N := by rw [hN]; exact near_ok _ _
   have hll : ∀ k, k < N.length → (nthL N k).length ≤ 64 := fun k h => by
    rw [hN, nearA_nth _ (by omega)]
    exact Nat.le_trans (nearT_len _ _ _) hn64
   have hnb : ∀ W, Below w0.heap.size w0 W → Calls Tryz.prog 52 #[.agg #[.slice a xs.length c, .slice ra es.length rc]] W fun e w' => ∃ v, e = .returned v ∧ OwnS w' W.heap.size v N ∧ Below W.heap.size W w' := fun W h => by
    rw [hN, ← near_same hG]
    exact neighborLists_any a xs.length c ra rc es W (by omega) (by omega) ((unhide HES).below h) hG.inE hG.lt
   have hrf := fun la lc W (h : Below w0.heap.size w0 W) (hN : RdS W la N) => refine_any la lc N pa pc cs W hN ((unhide HP).below h) (by omega) (by omega) hok hll
   rw [← hN] at hRR
   have HRR := Lib.hid hRR
   have HRF := hide hrf
   have HNB := hide hnb
   clear hv hk hR hw0 hp hac hN hNl hok hRR hll hnb hrf hG hlen hco
   go_enter Tryz.func9, Tryz.ntmps9
   go_wp2_with fail
   rw [← HW.out]
   refine (unhide HV).mono ?_
   rintro e w1 ⟨rfl, b1⟩
   clear f0 f1
   have k1 := unhide BA w1 b1
   have f0 := k1.cell 0
   have f1 := k1.cell 1
   go_wp2_with fail
   refine (unhide HAC _ b1).mono ?_
   rintro e w2 ⟨rfl, b2⟩
   have b2' := b1.trans (b2.mono b1.size)
   clear f0 f1
   have k2 := unhide BA w2 b2'
   have f0 := k2.cell 0
   have f1 := k2.cell 1
   go_wp2_with fail
   refine (unhide HNB _ b2').mono ?_
   rintro e w3 ⟨v3, rfl, o3, b3⟩
   obtain ⟨la, lc, rfl, r3⟩ := o3.form
   have b3' := b2'.trans (b3.mono b2'.size)
   have R3 := hide r3
   clear o3 r3 f0 f1
   go_wp2_with fail
   refine (unhide HRF _ _ _ b3' (unhide R3)).mono ?_
   rintro e w4 ⟨v4, rfl, o4, b4⟩
   have b4' := b3'.trans (b4.mono b3'.size)
   have hz := (hb0.trans (b3'.mono hb0.size)).size
   go_wp2
   go_ret2
   rw [HRR.out]
   exact ⟨_, rfl, o4.mono hz, hb0.trans (b4'.mono hb0.size)⟩
end Go.Proofs.YtgfcbmflnldicaaGreat
