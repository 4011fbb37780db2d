/-
  Texts joined.
-/
import Derived.Test.YtgfcbmflnldicaaGreatRF13
import Derived.Test.YtgfcbmflnldicaaGreatRF14
import Derived.Test.YtgfcbmflnldicaaGreatRF18
import Derived.Test.YtgfcbmflnldicaaGreatRF22
set_option linter.unusedVariables false
set_option linter.unusedSimpArgs false
set_option maxRecDepth 100000
set_option maxHeartbeats 40000000
namespace Go.Proofs.YtgfcbmflnldicaaGreat
open Go.RowKit
attribute [local go_sem ↓] Go.wp_at_zero Go.wp_at_succ
def keysTo (N : List (List Int)) (cs : List Int) (k : Nat) : List (List Int) := (List.range cs.length).map fun v => if v < k then keyAt N cs v else []
theorem keysTo_len (N : List (List Int)) (cs : List Int) (k : Nat) : (keysTo N cs k).length = cs.length := by simp [keysTo]
theorem keysTo_zero (N : List (List Int)) (cs : List Int) : keysTo N cs 0 = List.replicate cs.length [] := by
 refine List.ext_getElem (by simp [keysTo]) fun i h1 h2 => ?_
 simp [keysTo]
theorem keysTo_set {N : List (List Int)} {cs : List Int} {k : Nat} : (keysTo N cs k).set k (keyAt N cs k) = keysTo N cs (k + 1) := by
 refine List.ext_getElem (by simp [keysTo]) fun i h1 h2 => ?_
 rw [List.getElem_set]
 by_cases h : k = i
 · subst h
   simp [keysTo]
 · rw [if_neg h]
   simp only [keysTo, List.getElem_map, List.getElem_range]
   by_cases h3 : i < k
   · rw [if_pos h3, if_pos (by omega)]
   · rw [if_neg h3, if_neg (by omega)]
theorem keysTo_all (N : List (List Int)) (cs : List Int) : keysTo N cs cs.length = keysOf N cs := by
 rw [keysTo, keysOf]
 refine List.map_congr_left fun v hv => ?_
 rw [if_pos (List.mem_range.1 hv)]
def fillTo (R : List Int) (j : Nat) : List Int := (List.range R.length).map fun i => if i < j then nth R i else 0
theorem fillTo_len (R : List Int) (j : Nat) : (fillTo R j).length = R.length := by simp [fillTo]
theorem fillTo_zero (R : List Int) : fillTo R 0 = zeros R.length := by
 refine List.ext_getElem (by simp [fillTo, zeros]) fun i h1 h2 => ?_
 simp [fillTo, zeros]
theorem fillTo_set {R : List Int} {j : Nat} : (fillTo R j).set j (nth R j) = fillTo R (j + 1) := by
 refine List.ext_getElem (by simp [fillTo]) fun i h1 h2 => ?_
 rw [List.getElem_set]
 simp only [fillTo, List.getElem_map, List.getElem_range]
 by_cases h : j = i
 · subst h
   simp
 · rw [if_neg h]
   by_cases h3 : i < j
   · rw [if_pos h3, if_pos (by omega)]
   · rw [if_neg h3, if_neg (by omega)]
theorem fillTo_all (R : List Int) : fillTo R R.length = R := by
 refine List.ext_getElem (by simp [fillTo]) fun i h1 h2 => ?_
 simp only [fillTo, List.getElem_map, List.getElem_range]
 rw [if_pos h2]
 simp [nth, h2]
theorem rank_place {K : List (List Int)} {x : List Int} (hx : x ∈ K) : ∃ p : Nat, p < (distL K).length ∧ rankL (distL K) x = p ∧ (∀ i, i < p → cmpL (nthL (distL K) i) x < 0) ∧ (∀ i, p ≤ i → i < (distL K).length → ¬ cmpL (nthL (distL K) i) x < 0) := by
 have hs := distL_strict K
 obtain ⟨p, hp, rfl⟩ := List.getElem_of_mem ((distL_mem K x).2 hx)
 refine ⟨p, hp, rankL_get hs hp, fun i hi => ?_, fun i hi hil => ?_⟩
 · rw [nthL_lt (by omega)]
   exact (List.pairwise_iff_getElem.1 hs) i p (by omega) hp hi
 · rw [nthL_lt hil]
   rcases Nat.lt_or_ge p i with h | h
   · exact LtL.asymm ((List.pairwise_iff_getElem.1 hs) p i hp hil h)
   · obtain rfl : i = p := by omega
     exact LtL.irrefl _
theorem keyAt_eq (N : List (List Int)) (cs : List Int) (v : Nat) : keyAt N cs v = nth cs v :: sortI (around N cs v) := rfl
theorem keys_any (la : Option Addr) (lc : Nat) (N : List (List Int)) (pa : Option Addr) (pc : Nat) (cs : List Int) (w : World) (hN : RdS w la N) (hp : Rd w pa cs) (hl : cs.length = N.length) (hn : N.length ≤ 64) (hok : NOk N) (hll : ∀ k, k < N.length → (nthL N k).length ≤ 64) :
    Calls Tryz.prog 55 #[.slice la N.length lc, .slice pa cs.length pc] w fun e w' => ∃ v, e = .returned v ∧ Own w' w.heap.size v (roundT N cs) ∧ Below w.heap.size w w' := by
 have HP := hide hp
 have HNR := hide hN
 have HOK := hide hok
 have HLL := hide hll
 have HL := Lib.hid hl
 have hpl : cs.length ≤ 64 := by omega
 have hmk := fun W => run_make_row' (P := Tryz.prog) 42 24 (.slice none 0 0) 24 Tryz.underlying42 Tryz.info_row rfl .i64 .i64 cs.length (by omega) (by omega) W
 obtain ⟨w1, hw1⟩ : ∃ z, z = w.alloc (.cells (madeCells #[.slice none 0 0] cs.length) 24) := ⟨_, rfl⟩
 have b1 : Below w.heap.size w w1 := by rw [hw1]; exact (Below.refl _ _).alloc (Nat.le_refl _) _
 have O1 := hide (show OwnS w1 w.heap.size (.slice (some ⟨w.heap.size, 0, none⟩) cs.length cs.length) (keysTo N cs 0) by rw [hw1, keysTo_zero]; exact OwnS.nils w (Nat.le_refl _) (by omega))
 have HW1 := Lib.hid hw1
 have s1 : w.heap.size + 1 ≤ w1.heap.size := by rw [hw1]; simp
 clear hp hN hok hll hl hw1
 go_enter Tryz.func55, Tryz.ntmps55
 go_upto_region 2 with fail
 rw [← HW1.out]
 go_wp2_with fail
 go_loopw [22] (fun iv wr => ∃ v : Nat, iv = .int .i64 v ∧ v ≤ cs.length ∧ Hid (OwnS wr w.heap.size (.slice (some ⟨w.heap.size, 0, none⟩) cs.length cs.length) (keysTo N cs v)) ∧ Below w.heap.size w wr ∧ w.heap.size + 1 ≤ wr.heap.size) (fun iv _ => cs.length - (intOf iv).toNat)
 case atStart => exact ⟨0, rfl, Nat.zero_le _, O1, b1, s1⟩
 case round =>
  obtain ⟨v, rfl, hv, ho, hb, hs1⟩ := hrel
  have hsz := hb.size
  rename World => wo
  by_cases hvn : v < cs.length
  · have hvN : v < N.length := by rw [← HL.out]; exact hvn
    obtain ⟨pb, po, rfl, hpb, hpc⟩ := (unhide HP).at_ (by omega)
    have g1 := hpc v hvn
    have gx := (hb.cell (p := ⟨pb, po + v, none⟩) hpb).trans g1
    obtain ⟨nb, no, rfl, hnb, hnc⟩ := (unhide HNR).at_ (by omega)
    obtain ⟨au, cu, hl0, hru⟩ := hnc v hvN
    have hin := (unhide HOK) v hvN
    have har := around_of N cs v
    have hl6 := (unhide HLL) v hvN
    have hke := keyAt_eq N cs v
    obtain ⟨row, hrow⟩ : ∃ row, row = nthL N v := ⟨_, rfl⟩
    obtain ⟨x, hx⟩ : ∃ x, x = nth cs v := ⟨_, rfl⟩
    rw [← hrow] at hl0 hru hin har hl6
    rw [← hx] at gx hke
    rw [har] at hke
    have hl1 := (hb.cell (p := ⟨nb, no + v, none⟩) hnb).trans hl0
    have HRU := hide hru
    have HIN := hide hin
    have HKE := Lib.hid hke
    have HPC := hide hpc
    have HO := hide ho.out.toH
    clear hpc g1 hnc hl0 hru hin har hrow hx hke ho
    go_wp2_with fail
    go_loopw [8, 32] (fun v8 iv wr => ∃ i : Nat, iv = .int .i64 i ∧ i ≤ row.length ∧ Hid (Own wr wo.heap.size v8 (aroundTo row cs i)) ∧ Below wo.heap.size wo wr) (fun _ iv _ => row.length - (intOf iv).toNat)
    case atStart => exact ⟨0, rfl, Nat.zero_le _, Own.nil _ _, Below.refl _ _⟩
    case round =>
     obtain ⟨i, rfl, hi, ho, hb3⟩ := hrel
     have hsz3 := hb3.size
     have hbw := hb.trans (hb3.mono hsz)
     by_cases hil : i < row.length
     · obtain ⟨rb, ro, rfl, hrb, hrc⟩ := (unhide HRU).at_ (by omega)
       have hx1 := (hbw.cell (p := ⟨rb, ro + i, none⟩) hrb).trans (hrc i hil)
       have hst := aroundTo_succ (cs := cs) hil
       have hxr := (unhide HIN) _ (nth_mem hil)
       obtain ⟨k, hk⟩ : ∃ k : Nat, nth row i = (k : Int) := ⟨(nth row i).toNat, by omega⟩
       rw [hk] at hx1 hst hxr
       rw [Int.toNat_natCast] at hst
       have hkn : k < cs.length := by have := HL.out; omega
       have g3 := (hbw.cell (p := ⟨pb, po + k, none⟩) hpb).trans ((unhide HPC) k hkn)
       obtain ⟨z, hz⟩ : ∃ z, z = nth cs k := ⟨_, rfl⟩
       rw [← hz] at g3 hst
       have hal := aroundTo_len row cs hi
       obtain ⟨L, hL⟩ : ∃ L, L = aroundTo row cs i := ⟨_, rfl⟩
       rw [← hL] at ho hst hal
       have HST := Lib.hid hst
       have HAL := Lib.hid hal
       obtain ⟨a8, c8, rfl, _, _⟩ := ho.out.form
       have OL := hide ho.out
       clear hrc hst hk hz hal hL ho
       go_wp2_with (at_builtin; refine wpList_append_ints rfl (.tmp 36) (.tmp 41) rfl wo.heap.size _ L [z] rfl ((unhide OL).alloc _) _ 1 1 rfl rfl (Rd.one wr z _) (by rw [HAL.out]; simp; omega) (by simp; omega) ?_; intro v5 w5 o5 g5 _)
       go_roundw
       case rel => exact ⟨i + 1, by go_num, by omega, by rw [HST.out]; exact o5, (hb3.alloc (by omega) _).grown g5 (by simp; omega) (fun q hq => ((unhide OL).lt q hq).1)⟩
       case measure => simp only [intOf]; omega
     · have hie : i = row.length := by omega
       have hoo := ho.out
       rw [hie] at hoo
       have HSO := hide (sortI_own hoo)
       have HOO := hide hoo
       obtain ⟨A, hA⟩ : ∃ A, A = sortI (aroundTo row cs row.length) := ⟨_, rfl⟩
       have hAl : A.length = row.length := by rw [hA, sortI_len, aroundTo_len _ _ (Nat.le_refl _)]
       rw [← hA] at HSO HKE
       have HALN := Lib.hid hAl
       clear hie hoo ho hA hAl
       go_wp2_with fail
       refine (unhide HSO).mono ?_
       rintro e w6 ⟨rfl, o6, g6⟩
       have b6 := Below.step hb3 g6 (unhide HOO) (Nat.le_refl _) hsz3
       obtain ⟨a6, c6, rfl, r6, _⟩ := o6.form
       have s6 := b6.size
       have R6 := hide r6
       have hws : w.heap.size ≤ wo.heap.size := hsz
       have hlt7 : ∀ q, Value.ownBlock (.slice (some ⟨w6.heap.size, 0, none⟩) 1 1) = some q → wo.heap.size ≤ q := fun q hq => by simp [Value.ownBlock] at hq; omega
       have HLT7 := hide hlt7
       have O6 := hide o6
       clear o6 g6 r6 hlt7
       go_wp2_with (at_builtin; refine wpList_append_ints rfl (.tmp 49) (.tmp 50) rfl w6.heap.size _ [x] A rfl (Own.lit1 w6 x) _ _ _ rfl rfl ((unhide R6).below ((Below.refl _ _).alloc (Nat.le_refl _) _)) (by rw [HALN.out]; simp; omega) (by simp) ?_; intro v9 w9 o9 g9 _; have b9 := (b6.alloc s6 (.cells #[.int .i64 x] 2)).grown g9 (by simp; omega) (fun q hq => unhide HLT7 q hq); have hH9 := (unhide HO).belw b9 (Nat.le_refl _); obtain ⟨ak, ck, _, hrw, _⟩ := hH9.own.row (i := v) (by rw [keysTo_len]; exact hvn); have qc := hrw _ _ _ _ rfl; rw [Nat.zero_add] at qc; have qf := hH9.own.frozen v; obtain ⟨a9, c9, rfl, _, _⟩ := o9.form; rw [show ([x] ++ A).length = A.length + 1 by simp] at o9; have o9m := o9.mono s6; have H9 := hide hH9; have O9 := hide o9m; clear hH9 hrw o9 o9m g9)
       have pu := ((unhide H9).put (unhide O9) hws (j := v) (by rw [keysTo_len]; exact hvn)).1
       rw [show [x] ++ A = keyAt N cs v from HKE.out.symm, keysTo_set] at pu
       have PU := hide pu
       have b9s := b9.size
       clear pu
       go_roundw
       case rel => exact ⟨v + 1, by go_num, by omega, unhide PU, (hb.trans (b9.mono hsz)).setCell (p := ⟨w.heap.size, v, none⟩) (Nat.le_refl _) _, by simp; omega⟩
       case measure => simp only [intOf]; omega
  · have hve : v = cs.length := by omega
    have ho2 := ho.out
    rw [hve, keysTo_all] at ho2
    have hKl : (keysOf N cs).length = cs.length := keysOf_len _ _
    obtain ⟨K, hK⟩ : ∃ K, K = keysOf N cs := ⟨_, rfl⟩
    rw [← hK] at ho2 hKl
    have HKE2 := Lib.hid hK
    have HCL := hide (cloneR_any ho2 (by omega) (by simp))
    have HKO := hide ho2.toH
    have HKL := Lib.hid hKl
    have hws : w.heap.size ≤ wo.heap.size := hsz
    clear hK hKl ho ho2
    go_wp2_with fail
    refine (unhide HCL).mono ?_
    rintro e w2 ⟨v2, hs, rfl, hm, hor, hnn, b2⟩
    have HSO := hide (sortR_own hor)
    have HM := Lib.hid hm
    have hform := hor.form
    obtain ⟨g, c, rfl, hBg, hg2⟩ : ∃ g c, v2 = .slice (some ⟨g, 0, none⟩) hs.length c ∧ wo.heap.size ≤ g ∧ g < w2.heap.size := by
     rcases hform with ⟨e, _⟩ | h
     · exact absurd e hnn
     · exact h
    clear hform hor hm hnn HCL
    go_wp2_with fail
    refine (unhide HSO).mono ?_
    rintro e w3 ⟨rfl, ks, hpm, hsd, hor3, g3⟩
    have hkl : ks.length = hs.length := by simpa using hpm.length_eq
    have hcap : ks.length ≤ c := by
     rcases hor3.2.1.2 with ⟨e, _⟩ | ⟨g', cap', cur, e, _, _, h5, _⟩
     · cases e
     · injection e with _ _ e
       omega
    have hDm : (cmpct eqH ks).map Hdr.xs = distL K := by
     rw [cmpct_map, ← HM.out]
     exact cmpct_sortL hpm hsd
    rw [← hkl] at hor3
    have HCO := hide (compactR_any hor3 hcap)
    have hkl2 : hs.length = ks.length := hkl.symm
    rw [hkl2]
    have HDM := Lib.hid hDm
    clear hpm hsd hor3 hcap hkl hkl2 HSO HM hDm g3
    go_wp2_with fail
    refine (unhide HCO).mono ?_
    rintro e w4 ⟨m, rfl, hor4, _⟩
    have b4 : Below wo.heap.size wo w4 := hor4.2.2.2
    have hrd := hor4.rds
    have hml : m = (distL K).length := by
     rcases hor4.form with ⟨e, _⟩ | ⟨g', c', e, _, _⟩
     · cases e
     · injection e with _ e2 _
       rw [e2, ← HDM.out, List.length_map]
    rw [HDM.out] at hrd
    subst hml
    have hdl : (distL K).length ≤ 64 := by
     have h1 := hor4.1
     have : (distL K).length ≤ K.length := by
      rw [distL]
      exact Nat.le_trans (cmpct_len _ _) (by rw [(sortL_perm K).length_eq]; exact Nat.le_refl _)
     have := HKL.out
     omega
    have HRD := hide hrd
    have HK4 := hide ((unhide HKO).belw b4 (Nat.le_refl _))
    have hs4 := b4.size
    clear hor4 hrd HCO HDM HKO
    go_wp2_with (refine wpList_make_ints rfl (.tmp 61) (.tmp 61) rfl .i64 .i64 cs.length rfl rfl (by omega) ?_; intro w5 g5 o5 b5)
    have s5 := b5.size
    obtain ⟨R, hR⟩ : ∃ R, R = ranks K := ⟨_, rfl⟩
    have hRl : R.length = cs.length := by rw [hR, ranks_len]; exact HKL.out
    have hz5 : zeros cs.length = fillTo R 0 := by rw [fillTo_zero, hRl]
    rw [hz5] at o5
    have O5 := hide o5
    have hRT : roundT N cs = R := by rw [hR, HKE2.out]; rfl
    have HRT := Lib.hid hRT
    have hrk : ∀ j, j < cs.length → ∃ p : Nat, p ≤ (distL K).length ∧ nth R j = (p : Int) ∧ (∀ i, i < p → cmpL (nthL (distL K) i) (nthL K j) < 0) ∧ (∀ i, p ≤ i → i < (distL K).length → ¬ cmpL (nthL (distL K) i) (nthL K j) < 0) := by
     intro j hj
     have hjk : j < K.length := by rw [HKL.out]; exact hj
     have hmem : nthL K j ∈ K := by rw [nthL_lt hjk]; exact List.getElem_mem hjk
     obtain ⟨p, h1, h2, h3, h4⟩ := rank_place hmem
     exact ⟨p, by omega, by rw [hR, ranks_nth hjk, h2], h3, h4⟩
    have HRK := hide hrk
    have HRL := Lib.hid hRl
    have hb5 : Below wo.heap.size wo w5 := b4.trans (b5.mono hs4)
    clear hR hRl hz5 hrk o5 hRT
    go_wp2_with fail
    go_loopw [65] (fun iv wr => ∃ j : Nat, iv = .int .i64 j ∧ j ≤ cs.length ∧ Hid (Own wr w4.heap.size (.slice (some ⟨g5, 0, none⟩) cs.length cs.length) (fillTo R j)) ∧ Below w4.heap.size w4 wr) (fun iv _ => cs.length - (intOf iv).toNat)
    case atStart => exact ⟨0, rfl, Nat.zero_le _, O5, b5⟩
    case round =>
     obtain ⟨j, rfl, hj, hf, hb6⟩ := hrel
     rename World => wi
     by_cases hjl : j < cs.length
     · obtain ⟨p, hp1, hp2, hp3, hp4⟩ := (unhide HRK) j hjl
       have hjK : j < K.length := by rw [HKL.out]; exact hjl
       have H6 := (unhide HK4).belw hb6 hs4
       obtain ⟨ak, ck, hor6, hcr, _⟩ := H6.own.row (i := j) hjK
       have qc := hcr _ _ _ _ rfl
       rw [Nat.zero_add] at qc
       have hbs := bsearchL_any (some ⟨g, 0, none⟩) ak c ck (distL K) (nthL K j) p wi ((unhide HRD).below (hb6.mono (Nat.le_refl _))) hor6.rd (by omega) hp1 hp3 (fun i a b => by have := hp4 i a b; omega)
       obtain ⟨bq, hbq⟩ : ∃ bq, bq = (decide (p < (distL K).length) && decide (cmpL (nthL (distL K) p) (nthL K j) = 0)) := ⟨_, rfl⟩
       rw [← hbq] at hbs
       obtain ⟨kl, hkl⟩ : ∃ kl, kl = (nthL K j).length := ⟨_, rfl⟩
       rw [← hkl] at hbs qc
       have HBS := hide hbs
       have hset := (hf.out.set j (p : Int)).1
       rw [← hp2, fillTo_set, hp2] at hset
       have HST := hide hset
       have c6 := hf.out.cell (j := j) (by rw [fillTo_len, HRL.out]; exact hjl)
       have f6 := hf.out.frozen j
       obtain ⟨z6, hz6⟩ : ∃ z, z = nth (fillTo R j) j := ⟨_, rfl⟩
       rw [← hz6] at c6
       have s6 := hb6.size
       have hg5 : w4.heap.size ≤ g5 := (hf.out.lt g5 rfl).1
       have bset := hb6.setCell (p := ⟨g5, j, none⟩) hg5 (.int .i64 (p : Int))
       have BS := hide bset
       clear hbs hbq hkl hset hz6 H6 hor6 hcr hp2 hp3 hp4 hf bset
       go_wp2_with fail
       refine (unhide HBS).mono ?_
       rintro e w7 ⟨rfl, rfl⟩
       go_wp2_with fail
       go_roundw
       case rel => exact ⟨j + 1, by go_num, by omega, unhide HST, unhide BS⟩
       case measure => simp only [intOf]; omega
     · have hje : j = cs.length := by omega
       have hff := hf.out
       rw [hje, ← HRL.out, fillTo_all, HRL.out] at hff
       have HF := hide hff
       clear hf hff
       go_wp2
       go_ret
       exact ⟨_, rfl, by rw [HRT.out]; exact (unhide HF).mono (by omega), hb.trans ((b4.trans (hb6.mono hs4)).mono hws)⟩
end Go.Proofs.YtgfcbmflnldicaaGreat
namespace Go.Proofs.YtgfcbmflnldicaaGreat
open Go.RowKit
attribute [local go_sem ↓] Go.wp_at_zero Go.wp_at_succ
theorem implEQ_any (a : Option Addr) (c : Nat) (xs : List Int) (ra : Option Addr) (rc : Nat) (es : List (Int × Int)) (pa : Option Addr) (pc : Nat) (cs : List Int) (w : World) (hx : Rd w a xs) (hes : RdE w ra es) (hp : Rd w pa cs) :
    Calls Tryz.prog 11 #[.agg #[.slice a xs.length c, .slice ra es.length rc], .slice pa cs.length pc] w fun e w' => e = .returned (.bool (eqRes xs es cs)) ∧ Below w.heap.size w w' := by
 have hxl := hx.len
 have hel := hes.len
 have hpl := hp.len
 generalize hR : eqRes xs es cs = r
 obtain ⟨w0, hw0⟩ : ∃ w0, w0 = w.alloc (.cells #[.slice a xs.length c, .slice ra es.length rc] 27) := ⟨_, rfl⟩
 have hb0 : Below w.heap.size w w0 := by rw [hw0]; exact (Below.refl _ _).alloc (Nat.le_refl _) _
 have kA : Blk w0 w.heap.size 27 #[.slice a xs.length c, .slice ra es.length rc] := by rw [hw0]; exact Blk.new _ _ _ rfl
 have s0 : w0.heap.size = w.heap.size + 1 := by rw [hw0]; simp
 have BA := hide (show ∀ W, Below w0.heap.size w0 W → Blk W w.heap.size 27 #[.slice a xs.length c, .slice ra es.length rc] from fun W h => kA.below h kA.lt)
 have HX := hide (hx.below hb0)
 have HES := hide (hes.below hb0)
 have f0 := kA.cell 0
 have f1 := kA.cell 1
 rw [hw0] at f0 f1
 have HW := Lib.hid hw0
 have HP := hide (hp.below hb0)
 have hv := implValidGraph_any a ra c rc xs es w0 (unhide HX) (unhide HES)
 have hac := fun W (h : Below w0.heap.size w0 W) => areCells_any a xs.length c (.slice ra es.length rc) pa pc cs W ((unhide HP).below h)
 cases hk : okG xs es with
 | false =>
  have HN := Lib.hid (show r = false by rw [← hR, eqRes, hk]; rfl)
  rw [hk] at hv
  have HV := hide hv
  clear hv hk hR hw0 hp hac
  go_enter Tryz.func11, Tryz.ntmps11
  go_wp2_with fail
  rw [← HW.out]
  refine (unhide HV).mono ?_
  rintro e w1 ⟨rfl, b1⟩
  go_wp2
  go_ret
  exact ⟨by rw [HN.out]; rfl, hb0.trans (b1.mono hb0.size)⟩
 | true =>
  have hG := okG_iff.1 hk
  have hn64 := hG.n64
  have hm := hG.m512
  rw [hk] at hv
  have HV := hide hv
  cases hck : (decide (cs.length = xs.length) && colorsOk cs) with
  | false =>
   have HN := Lib.hid (show r = false by
    rw [← hR, eqRes, hk]
    cases h1 : decide (cs.length = xs.length)
    · rfl
    · rw [h1] at hck
      cases h2 : colorsOk cs
      · rfl
      · rw [h2] at hck; cases hck)
   rw [hck] at hac
   have HAC := hide hac
   clear hv hk hR hw0 hp hac hck
   go_enter Tryz.func11, Tryz.ntmps11
   go_wp2_with fail
   rw [← HW.out]
   refine (unhide HV).mono ?_
   rintro e w1 ⟨rfl, b1⟩
   clear f0 f1
   have k1 := unhide BA w1 b1
   have f0 := k1.cell 0
   have f1 := k1.cell 1
   go_wp2_with fail
   refine (unhide HAC _ b1).mono ?_
   rintro e w2 ⟨rfl, b2⟩
   go_wp2
   go_ret
   exact ⟨by rw [HN.out]; rfl, hb0.trans ((b1.trans (b2.mono b1.size)).mono hb0.size)⟩
  | true =>
   rw [hck] at hac
   have HAC := hide hac
   simp only [Bool.and_eq_true, decide_eq_true_eq] at hck
   obtain ⟨hlen, hco⟩ := hck
   obtain ⟨N, hN⟩ : ∃ N, N = nearA xs.length (adjE es) xs.length := ⟨_, rfl⟩
   have hNl : N.length = xs.length := by rw [hN, nearA_len]
   have hok : NOk N := by rw [hN]; exact near_ok _ _
   have hRR : r = equit N cs := by rw [← hR, eqRes, hk, hco, decide_eq_true hlen, ← hN]; rfl
   have hll : ∀ k, k < N.length → (nthL N k).length ≤ 64 := fun k h => by
    rw [hN, nearA_nth _ (by omega)]
    exact Nat.le_trans (nearT_len _ _ _) hn64
   have hnb : ∀ W, Below w0.heap.size w0 W → Calls Tryz.prog 52 #[.agg #[.slice a xs.length c, .slice ra es.length rc]] W fun e w' => ∃ v, e = .returned v ∧ OwnS w' W.heap.size v N ∧ Below W.heap.size W w' := fun W h => by
    rw [hN, ← near_same hG]
    exact neighborLists_any a xs.length c ra rc es W (by omega) (by omega) ((unhide HES).below h) hG.inE hG.lt
   have hrf := fun la lc W (h : Below w0.heap.size w0 W) (hN : RdS W la N) => keys_any la lc N pa pc cs W hN ((unhide HP).below h) (by omega) (by omega) hok hll
   have hrl : (roundT N cs).length = cs.length := roundT_len N cs
   have hcc := fun W (h : Below w0.heap.size w0 W) => cellCount_any pa pc cs W ((unhide HP).below h)
   rw [hRR]
   obtain ⟨M, hM⟩ : ∃ M, M = many cs := ⟨_, rfl⟩
   obtain ⟨K, hK⟩ : ∃ K, K = roundT N cs := ⟨_, rfl⟩
   have heq : equit N cs = decide (many K = M) := by rw [hK, hM]; rfl
   rw [heq]
   rw [← hM] at hcc
   simp only [← hK] at hrf
   have HRF := hide hrf
   have HCC := hide hcc
   have HNB := hide hnb
   obtain ⟨q, hq⟩ : ∃ q, q = decide (many K = M) := ⟨_, rfl⟩
   rw [← hq]
   have hq2 : ((many K : Int) == (M : Int)) = q := by
    rw [hq]
    by_cases h : many K = M
    · rw [decide_eq_true h, h]; simp
    · rw [decide_eq_false h, beq_eq_false_iff_ne]; omega
   have HQ := Lib.hid hq2
   have HNL := Lib.hid hNl
   clear hv hk hR hw0 hp hac hN hNl hok hRR hll hnb hrf hrl hcc hM hK heq hq hq2 hG hlen hco
   go_enter Tryz.func11, Tryz.ntmps11
   go_wp2_with fail
   rw [← HW.out]
   refine (unhide HV).mono ?_
   rintro e w1 ⟨rfl, b1⟩
   clear f0 f1
   have k1 := unhide BA w1 b1
   have f0 := k1.cell 0
   have f1 := k1.cell 1
   go_wp2_with fail
   refine (unhide HAC _ b1).mono ?_
   rintro e w2 ⟨rfl, b2⟩
   have b2' := b1.trans (b2.mono b1.size)
   clear f0 f1
   have k2 := unhide BA w2 b2'
   have f0 := k2.cell 0
   have f1 := k2.cell 1
   go_wp2_with fail
   refine (unhide HNB _ b2').mono ?_
   rintro e w3 ⟨v3, rfl, o3, b3⟩
   obtain ⟨la, lc, rfl, r3⟩ := o3.form
   have b3' := b2'.trans (b3.mono b2'.size)
   have R3 := hide r3
   clear o3 r3 f0 f1
   go_wp2_with fail
   refine (unhide HRF _ _ _ b3' (unhide R3)).mono ?_
   rintro e w4 ⟨v4, rfl, o4, b4⟩
   obtain ⟨ka, kc, rfl, r4, _⟩ := o4.form
   have b4' := b3'.trans (b4.mono b3'.size)
   have HC4 := hide (cellCount_any ka kc K w4 r4)
   clear o4 r4
   go_wp2_with fail
   refine (unhide HC4).mono ?_
   rintro e w5 ⟨rfl, b5⟩
   have b5' := b4'.trans (b5.mono b4'.size)
   go_wp2_with fail
   refine (unhide HCC _ b5').mono ?_
   rintro e w6 ⟨rfl, b6⟩
   have b6' := b5'.trans (b6.mono b5'.size)
   have hqq := HQ.out
   go_wp2
   go_ret
   exact ⟨rfl, hb0.trans (b6'.mono hb0.size)⟩
end Go.Proofs.YtgfcbmflnldicaaGreat
