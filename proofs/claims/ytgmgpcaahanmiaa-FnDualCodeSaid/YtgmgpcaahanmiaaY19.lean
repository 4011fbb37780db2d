/-
  Texts joined.
-/
import Derived.Test.YtgmgpcaahanmiaaY3
import Derived.Test.YtgmgpcaahanmiaaY6
import Derived.Test.YtgmgpcaahanmiaaY12
import Derived.Test.YtgmgpcaahanmiaaY14
import Derived.Test.YtgmgpcaahanmiaaY15
import Derived.Test.YtgmgpcaahanmiaaY16
import Derived.Test.YtgmgpcaahanmiaaY17
import Derived.Test.YtgmgpcaahanmiaaY18
set_option linter.unusedVariables false
set_option linter.unusedSimpArgs false
set_option maxRecDepth 100000
set_option maxHeartbeats 40000000
namespace Go.Proofs.Ytgmgpcaahanmiaa
open Go.RowKit
attribute [local go_sem ↓] Go.wp_at_zero Go.wp_at_succ
theorem encode_any (F : FD) (tv : Value) (ra : Option Addr) (rc : Nat) (rows : List (List Int)) (b : Option Addr) (cb : Nat) (msg : List Int) (n : Nat) (w : World) (hT : Tabs w F tv) (hG : F.Good) (hx : RdS w ra rows) (hy : Rd w b msg) (h0 : 0 < rows.length) (hM : F.Mat n rows) (hn1 : 1 ≤ n) (hn : n ≤ 32) (hl : msg.length ≤ rows.length) (hm : ∀ x ∈ msg, 0 ≤ x ∧ x < F.n) : Calls Try.prog 128 #[tv, .slice ra rows.length rc, .slice b msg.length cb] w fun e w' => ∃ v, e = .returned v ∧ Own w' w.heap.size v (encTo F n rows msg msg.length) ∧ Below w.heap.size w w' := by
 have hT0 := hT
 obtain ⟨aA, cA, aS, cS, aM, cM, aI, cI, rfl, _, _, _, _⟩ := hT
 have ok := hG.ok
 obtain ⟨n2, n64⟩ := ok.n_bd
 have hxl := hx.len
 have hyl := hy.len
 have hmk := fun W => run_make_row' (P := Try.prog) 22 2 (.int .i64 0) 8 Try.underlying22 Try.info_i64 rfl .i64 .i64 n (by omega) (by omega) W
 obtain ⟨W0, hHW⟩ : ∃ z, z = w.alloc (.cells #[.int .i64 F.n, .slice aA F.n cA, .slice aS F.n cS, .slice aM F.n cM, .slice aI F.n cI] 93) := ⟨_, rfl⟩
 have b0 : Below w.heap.size w W0 := by rw [hHW]; exact (Below.refl _ _).alloc (Nat.le_refl _) _
 have kT : Blk W0 w.heap.size 93 #[.int .i64 F.n, .slice aA F.n cA, .slice aS F.n cS, .slice aM F.n cM, .slice aI F.n cI] := by rw [hHW]; exact Blk.new _ _ _ rfl
 have skT : w.heap.size < W0.heap.size := kT.lt
 have HW := Lib.hid hHW
 clear hHW
 obtain ⟨gb, ob, rfl, hgb, hcc⟩ := (hx.below b0).at_ h0
 obtain ⟨ai0, ci0, h00, _⟩ := hcc 0 h0
 rw [Nat.add_zero, (Mat_nth hM h0).1] at h00
 have HCC := hide hcc
 have HX := hide hx
 have HY := hide hy
 have HMM := hide hM
 have HMS := hide hm
 have HT := hide hT0
 clear hcc hx hy hM hm hT0
 go_enter Try.func128, Try.ntmps128
 go_upto_region 1 with fail
 rw [← HW.out]
 go_upto_region 2 with fail
 obtain ⟨W1, hW1⟩ : ∃ z, z = W0.alloc (.cells (madeCells #[.int .i64 0] n) 2) := ⟨_, rfl⟩
 have oz : Own W1 W0.heap.size (.slice (some ⟨W0.heap.size, 0, none⟩) n n) (zeros n) := by rw [hW1]; exact Own.zeros W0 (Nat.le_refl _) (by omega)
 have bz : Below W0.heap.size W0 W1 := by rw [hW1]; exact (Below.refl _ _).alloc (Nat.le_refl _) _
 have sz : W0.heap.size < W1.heap.size := by rw [hW1]; simp
 rw [← hW1]
 clear hW1
 have kT1 := kT.below bz kT.lt
 have OZ := Lib.hid oz
 clear oz hmk
 go_wp2_with fail
 go_loopw [17] (fun iv wr => ∃ k : Nat, iv = .int .i64 k ∧ k ≤ msg.length ∧ Hid (Own wr W0.heap.size (.slice (some ⟨W0.heap.size, 0, none⟩) n n) (encTo F n rows msg k)) ∧ Hid (W1.grownBy wr (some W0.heap.size))) (fun iv _ => msg.length - (intOf iv).toNat)
 case atStart => exact ⟨0, rfl, Nat.zero_le _, OZ, hide (grown_refl _ _)⟩
 case round =>
  obtain ⟨k, rfl, hk, ho, hg⟩ := hrel
  have hbg : Below W0.heap.size W0 wr := bz.grown hg.out (by omega) (fun q hq => by injection hq; omega)
  have hbw : Below w.heap.size w wr := b0.trans (hbg.mono (Nat.le_of_lt skT))
  by_cases hkl : k < msg.length
  · have kTr := kT1.grown hg.out (by intro e; injection e; omega)
    obtain ⟨gm, om, rfl, _, hcm⟩ := ((unhide HY).below hbw).at_ (by omega)
    have hc1 := hcm k hkl
    have hxr := unhide HMS _ (nth_mem hkl)
    obtain ⟨ai, ci, hr1, hrr⟩ := unhide HCC k (by omega)
    have hmk := Mat_nth (unhide HMM) (show k < rows.length by omega)
    rw [hmk.1] at hr1
    have hr1w : wr.cell? ⟨gb, ob + k, none⟩ = some (.slice ai n ci) := (hbg.cell (p := ⟨gb, ob + k, none⟩) hgb).trans hr1
    obtain ⟨x, hxx⟩ : ∃ x, x = nth msg k := ⟨_, rfl⟩
    rw [← hxx] at hc1 hxr
    have hat : Calls Try.prog 90 #[.agg #[.int .i64 F.n, .slice aA F.n cA, .slice aS F.n cS, .slice aM F.n cM, .slice aI F.n cI], .slice (some ⟨W0.heap.size, 0, none⟩) n n, .slice ai n ci, .int .i64 x] wr.drew fun e w' => e = .returned (.tuple #[]) ∧ Own w' W0.heap.size (.slice (some ⟨W0.heap.size, 0, none⟩) n n) (addTo F (encTo F n rows msg k) (nthL rows k) x n) ∧ wr.drew.grownBy w' (some W0.heap.size) := by
     have hel := encTo_len F n rows msg k
     have h := addTimes_any F _ w wr.drew W0.heap.size W0.heap.size n ai ci (encTo F n rows msg k) (nthL rows k) x ok (unhide HT) hbw.drew (Nat.le_of_lt skT) (by rw [hel]; exact ho.out.drewN 1) ((hrr.below hbg).drewN 1) (fun p hp => by
      obtain ⟨b2, o2, e2, hb2, _⟩ := hrr.at_ (by rw [hmk.1]; omega)
      rw [hp] at e2
      injection e2 with e2
      rw [e2]
      show b2 ≠ W0.heap.size
      omega) (by rw [hel, hmk.1]) hxr.1 hxr.2 (encTo_el ok n rows msg k) hmk.2
     rw [hel, hmk.1] at h
     exact h
    have HAT := hide hat
    have HST := Lib.hid (show encTo F n rows msg (k + 1) = addTo F (encTo F n rows msg k) (nthL rows k) x n by rw [encTo, hxx])
    have f0 := kTr.cell 0
    have f1 := kTr.cell 1
    have f2 := kTr.cell 2
    have f3 := kTr.cell 3
    have f4 := kTr.cell 4
    have hkr : k < rows.length := by omega
    clear hat hxx hmk hcm hrr hr1
    go_wp2_with fail
    go_still_tail 7, (by kernel_rfl)
    change wpList _ _ _ _ _ wr.drew
    go_wp2_with fail
    refine (unhide HAT).mono ?_
    rintro e w5 ⟨rfl, o5, g5⟩
    go_wp2_with fail
    go_roundw
    case rel =>
     refine ⟨k + 1, by go_num, by omega, ?_, hide (grown_trans_row (grown_trans_row hg.out (grown_drew1 wr _)) g5)⟩
     show Own _ _ _ _
     rw [HST.out]
     exact o5
    case measure => simp only [intOf]; omega
  · have hke : k = msg.length := by omega
    have HE := Lib.hid hke
    clear hke
    go_wp2_with fail
    go_ret
    exact ⟨_, rfl, by have h := ho.out; rw [HE.out] at h; exact h.mono (Nat.le_of_lt skT), hbw⟩
end Go.Proofs.Ytgmgpcaahanmiaa
namespace Go.Proofs.Ytgmgpcaahanmiaa
open Go.RowKit
attribute [local go_sem ↓] Go.wp_at_zero Go.wp_at_succ
theorem l18Encode_any (g : Nat) (F : FD) (ra : Option Addr) (rc : Nat) (rows : List (List Int)) (b : Option Addr) (cb : Nat) (msg : List Int) (n : Nat) (w : World) (hF : PF w g F) (hG : F.Good) (hc3 : w.cell? ⟨g, 3, none⟩ = some (.slice ra rows.length rc)) (hx : RdS w ra rows) (hy : Rd w b msg) (h0 : 0 < rows.length) (hM : F.Mat n rows) (hn1 : 1 ≤ n) (hn : n ≤ 32) (hl : msg.length ≤ rows.length) (hm : ∀ x ∈ msg, 0 ≤ x ∧ x < F.n) : Calls Try.prog 134 #[.pointer (some ⟨g, 0, none⟩), .slice b msg.length cb] w fun e w' => ∃ v, e = .returned v ∧ Own w' w.heap.size v (encTo F n rows msg msg.length) ∧ Below w.heap.size w w' := by
 have ok := hG.ok
 obtain ⟨n2, n64⟩ := ok.n_bd
 have hxl := hx.len
 have hyl := hy.len
 have hglt : g < w.heap.size := World.block_lt_of_cell? w _ hc3
 have hmk := fun W => run_make_row' (P := Try.prog) 22 2 (.int .i64 0) 8 Try.underlying22 Try.info_i64 rfl .i64 .i64 n (by omega) (by omega) W
 obtain ⟨gb, ob, rfl, hgb, hcc⟩ := hx.at_ h0
 obtain ⟨ai0, ci0, h00, _⟩ := hcc 0 h0
 rw [Nat.add_zero, (Mat_nth hM h0).1] at h00
 have HCC := hide hcc
 have HY := hide hy
 have HMM := hide hM
 have HMS := hide hm
 have HF := hide hF
 clear hcc hx hy hM hm hF
 go_enter Try.func134, Try.ntmps134
 go_upto_region 2 with fail
 obtain ⟨W1, hW1⟩ : ∃ z, z = w.alloc (.cells (madeCells #[.int .i64 0] n) 2) := ⟨_, rfl⟩
 have oz : Own W1 w.heap.size (.slice (some ⟨w.heap.size, 0, none⟩) n n) (zeros n) := by rw [hW1]; exact Own.zeros w (Nat.le_refl _) (by omega)
 have bz : Below w.heap.size w W1 := by rw [hW1]; exact (Below.refl _ _).alloc (Nat.le_refl _) _
 rw [← hW1]
 clear hW1
 have OZ := Lib.hid oz
 clear oz hmk
 go_wp2_with fail
 go_loopw [6] (fun iv wr => ∃ i : Nat, iv = .int .i64 i ∧ i ≤ msg.length ∧ Hid (Own wr w.heap.size (.slice (some ⟨w.heap.size, 0, none⟩) n n) (encTo F n rows msg i)) ∧ Below w.heap.size w wr) (fun iv _ => msg.length - (intOf iv).toNat)
 case atStart => exact ⟨0, rfl, Nat.zero_le _, OZ, bz⟩
 case round =>
  obtain ⟨i, rfl, hi, ho, hb⟩ := hrel
  by_cases hil : i < msg.length
  · obtain ⟨gm, om, rfl, hgm, hcm⟩ := (unhide HY).at_ (by omega)
    have hc1 := hcm i hil
    have hxr := unhide HMS _ (nth_mem hil)
    have hir : i < rows.length := by omega
    obtain ⟨ai, ci, hr1, hrr⟩ := unhide HCC i hir
    have hmt := Mat_nth (unhide HMM) hir
    have hst : encTo F n rows msg (i + 1) = addTo F (encTo F n rows msg i) (nthL rows i) (nth msg i) n := rfl
    have hel := encTo_len F n rows msg i
    have hee := encTo_el ok n rows msg i
    obtain ⟨E, hE⟩ : ∃ E, E = encTo F n rows msg i := ⟨_, rfl⟩
    obtain ⟨x, hxx⟩ : ∃ x, x = nth msg i := ⟨_, rfl⟩
    obtain ⟨row, hrow⟩ : ∃ row, row = nthL rows i := ⟨_, rfl⟩
    rw [← hE] at ho hst hel hee
    rw [← hxx] at hc1 hxr hst
    rw [← hrow] at hr1 hrr hmt hst
    rw [hmt.1] at hr1
    obtain ⟨ge, oe, rfl, hge, hce⟩ := hrr.at_ (by rw [hmt.1]; omega)
    have HCE := hide hce
    have HST := Lib.hid hst
    have HMT := hide hmt
    have HEL := Lib.hid hel
    have HEE := hide hee
    clear hE hxx hrow hce hst hmt hel hee hrr hcm
    go_wp2_with fail
    go_loopw [7] (fun kv wr => ∃ k : Nat, kv = .int .i64 k ∧ k ≤ n ∧ Hid (Own wr w.heap.size (.slice (some ⟨w.heap.size, 0, none⟩) n n) (addTo F E row x k)) ∧ Below w.heap.size w wr) (fun kv _ => n - (intOf kv).toNat)
    case atStart => exact ⟨0, rfl, Nat.zero_le _, ho, hb⟩
    case round =>
     obtain ⟨k, rfl, hk, ho2, hb2⟩ := hrel
     by_cases hkn : k < n
     · have hsz := hb2.size
       have hal : (addTo F E row x k).length = n := by rw [addTo_len, HEL.out]
       have c36 := ho2.out.cell (j := k) (by rw [hal]; exact hkn)
       rw [addTo_nth F E row x k (by rw [HEL.out]; omega), if_neg (by omega)] at c36
       have f36 := ho2.out.frozen k
       have hG1 : w.heap.size < wr.heap.size := World.block_lt_of_cell? wr _ c36
       have hek := unhide HEE _ (nth_mem (k := k) (by rw [HEL.out]; exact hkn))
       have c53 := unhide HCE k (by rw [(unhide HMT).1]; exact hkn)
       have hyr := (unhide HMT).2 _ (nth_mem (k := k) (by rw [(unhide HMT).1]; exact hkn))
       have hsu : addTo F E row x (k + 1) = (addTo F E row x k).set k (F.add (nth E k) (F.mul x (nth row k))) := rfl
       obtain ⟨e, hE⟩ : ∃ e, e = nth E k := ⟨_, rfl⟩
       obtain ⟨y, hY⟩ : ∃ y, y = nth row k := ⟨_, rfl⟩
       rw [← hE] at c36 hek hsu
       rw [← hY] at c53 hyr hsu
       have hmul := fun W (h : Below wr.heap.size wr W) => (l03Mul_any g F x y W ((unhide HF).below (hb2.trans (h.mono hsz))) ok hxr.1 (by omega) hyr.1 (by omega)).mono fun e w' q => And.intro q.1 (Below.chain h q.2)
       change ∀ W, Below wr.heap.size wr W → Calls Try.prog 83 #[.pointer (some ⟨g, 0, none⟩), .int .i64 x, .int .i64 y] W fun e w' => e = .returned (.int .i64 (F.mul x y)) ∧ Below wr.heap.size wr w' at hmul
       have hMb := mul_bd ok x y
       obtain ⟨M, hM⟩ : ∃ M, M = F.mul x y := ⟨_, rfl⟩
       rw [← hM] at hmul hsu hMb
       have hsum := fun W (h : Below wr.heap.size wr W) => (l03Sum_any g F e M 1 W ((unhide HF).below (hb2.trans (h.mono hsz))) ok hek.1 (by omega) hMb.1 (by omega) (by omega) (by omega)).mono fun e w' q => And.intro q.1 (Below.chain h q.2)
       change ∀ W, Below wr.heap.size wr W → Calls Try.prog 82 #[.pointer (some ⟨g, 0, none⟩), .int .i64 e, .int .i64 M, .int .i64 1] W fun r w' => r = .returned (.int .i64 (F.add e M)) ∧ Below wr.heap.size wr w' at hsum
       obtain ⟨D, hD⟩ : ∃ D, D = F.add e M := ⟨_, rfl⟩
       rw [← hD] at hsum hsu
       have c43 := (hb2.cell (p := ⟨gm, om + i, none⟩) hgm).trans hc1
       have c47 := (hb2.cell (p := ⟨g, 3, none⟩) hglt).trans hc3
       have c50 := (hb2.cell (p := ⟨gb, ob + i, none⟩) hgb).trans hr1
       have c53 := (hb2.cell (p := ⟨ge, oe + k, none⟩) hge).trans c53
       have later : ∀ W, Below wr.heap.size wr W → (W.cell? ⟨w.heap.size, k, none⟩ = some (.int .i64 e) ∧ W.frozen? ⟨w.heap.size, k, none⟩ = false) := fun W h => ⟨(h.cell (p := ⟨w.heap.size, k, none⟩) hG1).trans c36, (ho2.out.below h (Nat.le_refl _)).frozen k⟩
       have LT := hide later
       have HMUL := hide hmul
       have HSUM := hide hsum
       have HSU := Lib.hid hsu
       clear hE hY hM hD hmul hsum hsu later hal hMb hek hyr
       go_upto_region 8 with fail
       go_region_with (first
        | (go_at_call 83; refine (unhide HMUL _ ?_).mono ?_; first | exact Below.refl _ _ | exact (Below.refl _ _).drew; rintro e W1 ⟨rfl, b1⟩; have d36 := (unhide LT _ b1).1)
        | (go_at_call 82; refine (unhide HSUM _ ?_).mono ?_; exact (by assumption); rintro e W2 ⟨rfl, b2⟩; have d37 := (unhide LT _ b2).1; have f37 := (unhide LT _ b2).2))
       all_goals
        go_wp2
        go_roundw
        case rel =>
         have hs := (ho2.out.below b2 (Nat.le_refl _)).set k D
         refine ⟨k + 1, by go_num, by omega, ?_, (hb2.trans (b2.mono hsz)).grown hs.2 (by have := b2.size; omega) (fun q hq => by injection hq; omega)⟩
         show Own _ _ _ _
         rw [HSU.out]
         exact hs.1
        case measure => simp only [intOf]; omega
     · have hke : k = n := by omega
       have HK := Lib.hid hke
       clear hke
       go_wp2_with fail
       go_roundw
       case rel =>
        refine ⟨i + 1, by go_num, by omega, ?_, hb2⟩
        show Own _ _ _ _
        rw [HST.out]
        have h := ho2.out
        rw [HK.out] at h
        exact h
       case measure => simp only [intOf]; omega
  · have hie : i = msg.length := by omega
    have HE := Lib.hid hie
    clear hie
    go_wp2_with fail
    go_ret
    exact ⟨_, rfl, by have h := ho.out; rw [HE.out] at h; exact h, hb⟩
end Go.Proofs.Ytgmgpcaahanmiaa
namespace Go.Proofs.Ytgmgpcaahanmiaa
open Go.RowKit
attribute [local go_sem ↓] Go.wp_at_zero Go.wp_at_succ
theorem elems_iff {q : Int} {xs : List Int} (h : elems q xs = true) : ∀ x ∈ xs, 0 ≤ x ∧ x < q := by
 exact elems_true.1 h
noncomputable def okV (p d : Int) (xs : List Int) (m : List (List Int)) (v : List Int) : Bool := okC p d xs m && elems (fdR p d xs).n v
noncomputable def encRes (p d : Int) (xs : List Int) (m : List (List Int)) (v : List Int) : List Int × Int :=
 if okV p d xs m v = true then (if v.length = m.length then (encTo (fdR p d xs) (nthL m 0).length m v v.length, 0) else ([], 6)) else ([], 1)
theorem isVector_any (p d : Int) (a : Option Addr) (c : Nat) (xs : List Int) (ra : Option Addr) (rc : Nat) (m : List (List Int)) (b : Option Addr) (cb : Nat) (v : List Int) (w : World) (hx : Rd w a xs) (hm : RdS w ra m) (hy : Rd w b v) (ed : I64 d) : Calls Try.prog 127 #[.agg #[.int .i64 p, .int .i64 d, .slice a xs.length c, .slice ra m.length rc], .slice b v.length cb] w fun e w' => e = .returned (.bool (okV p d xs m v)) ∧ Below w.heap.size w w' := by
 obtain ⟨W0, hHW⟩ : ∃ z, z = w.alloc (.cells #[.int .i64 p, .int .i64 d, .slice a xs.length c, .slice ra m.length rc] 37) := ⟨_, rfl⟩
 have b0 : Below w.heap.size w W0 := by rw [hHW]; exact (Below.refl _ _).alloc (Nat.le_refl _) _
 have k0 : Blk W0 w.heap.size 37 #[.int .i64 p, .int .i64 d, .slice a xs.length c, .slice ra m.length rc] := by rw [hHW]; exact Blk.new _ _ _ rfl
 have sk0 : w.heap.size < W0.heap.size := k0.lt
 have HW := Lib.hid hHW
 clear hHW
 have hV := implVC_any p d a c xs ra rc m W0 (hx.below b0) (hm.below b0) ed
 cases hk : okC p d xs m with
 | false =>
  have HN := Lib.hid (show okV p d xs m v = false by rw [okV, hk]; rfl)
  rw [hk] at hV
  have HV := hide hV
  clear hV hk
  have f0 := k0.cell 0
  have f1 := k0.cell 1
  have f2 := k0.cell 2
  have f3 := k0.cell 3
  go_enter Try.func127, Try.ntmps127
  go_upto_region 1 with fail
  rw [← HW.out]
  go_wp2_with fail
  refine (unhide HV).mono ?_
  rintro e w1 ⟨rfl, b1⟩
  go_wp2
  go_ret
  exact ⟨ret_bool (by rw [HN.out]), b0.trans (b1.mono (Nat.le_of_lt sk0))⟩
 | true =>
  obtain ⟨F, n, rfl, rfl, rfl, hC⟩ := okC_gc hk
  have ok := hC.good.ok
  obtain ⟨n2, n64⟩ := ok.n_bd
  have HO := Lib.hid (show okV F.p F.k F.poly m v = elems F.n v by rw [okV, hk, fdR_eq]; rfl)
  have hFS := fun W => fieldSize_any F a c W ok
  have hE := fun W h => areIn_any F.n b cb v W (by omega) (by omega) ((hy.below b0).below h)
  rw [hk] at hV
  have HV := hide hV
  have HFS := hide hFS
  have HE := hide hE
  clear hV hk hFS hE
  go_enter Try.func127, Try.ntmps127
  have f0 := k0.cell 0
  have f1 := k0.cell 1
  have f2 := k0.cell 2
  have f3 := k0.cell 3
  go_upto_region 1 with fail
  rw [← HW.out]
  go_wp2_with fail
  refine (unhide HV).mono ?_
  rintro e w1 ⟨rfl, b1⟩
  have k1 := k0.below b1 k0.lt
  have h0 := k1.cell 0
  have h1 := k1.cell 1
  have h2 := k1.cell 2
  have h3 := k1.cell 3
  go_wp2_with fail
  refine (unhide HFS w1).mono ?_
  rintro e w2 ⟨rfl, b2⟩
  go_wp2_with fail
  refine (unhide HE w2 (Below.chain b1 b2)).mono ?_
  rintro e w3 ⟨rfl, b3⟩
  go_wp2
  go_ret
  exact ⟨ret_bool (by rw [HO.out]), b0.trans ((Below.chain (Below.chain b1 b2) b3).mono (Nat.le_of_lt sk0))⟩
theorem specEW_any (p d : Int) (a : Option Addr) (c : Nat) (xs : List Int) (ra : Option Addr) (rc : Nat) (m : List (List Int)) (b : Option Addr) (cb : Nat) (v : List Int) (w : World) (hx : Rd w a xs) (hm : RdS w ra m) (hy : Rd w b v) : Calls Try.prog 48 #[.agg #[.int .i64 p, .int .i64 d, .slice a xs.length c, .slice ra m.length rc], .slice b v.length cb] w (ResL w (encRes p d xs m v)) := by
 have hml := hm.len
 have hvl := hy.len
 generalize hR : encRes p d xs m v = r
 obtain ⟨W0, hHW⟩ : ∃ z, z = w.alloc (.cells #[.int .i64 p, .int .i64 d, .slice a xs.length c, .slice ra m.length rc] 37) := ⟨_, rfl⟩
 have b0 : Below w.heap.size w W0 := by rw [hHW]; exact (Below.refl _ _).alloc (Nat.le_refl _) _
 have k0 : Blk W0 w.heap.size 37 #[.int .i64 p, .int .i64 d, .slice a xs.length c, .slice ra m.length rc] := by rw [hHW]; exact Blk.new _ _ _ rfl
 have sk0 : w.heap.size < W0.heap.size := k0.lt
 have HW := Lib.hid hHW
 clear hHW
 have hC0 : PC W0 w.heap.size p d a c xs ra rc m := ⟨⟨k0.cell 0, k0.cell 1, k0.cell 2, hx.below b0⟩, k0.cell 3, hm.below b0⟩
 have hV := l18Ok_any w.heap.size p d a c xs ra rc m W0 hC0
 cases hk : okC p d xs m with
 | false =>
  have HN := Lib.hid (show r = ([], 1) by rw [← hR, encRes, okV, hk]; rfl)
  rw [hk] at hV
  have HV := hide hV
  clear hV hk hR
  have f0 := k0.cell 0
  have f1 := k0.cell 1
  have f2 := k0.cell 2
  have f3 := k0.cell 3
  go_enter Try.func48, Try.ntmps48
  go_upto_region 1 with fail
  rw [← HW.out]
  go_wp2_with fail
  refine (unhide HV).mono ?_
  rintro e w1 ⟨rfl, b1⟩
  have k1 := k0.below b1 k0.lt
  have h0 := k1.cell 0
  have h1 := k1.cell 1
  have h2 := k1.cell 2
  have h3 := k1.cell 3
  have bb1 := b0.trans (b1.mono (Nat.le_of_lt sk0))
  go_wp2
  go_ret2
  rw [HN.out]
  exact ⟨_, rfl, Own.nil _ _, bb1⟩
 | true =>
  obtain ⟨F, n, rfl, rfl, rfl, hC⟩ := okC_gc hk
  have ok := hC.good.ok
  obtain ⟨n2, n64⟩ := ok.n_bd
  have hE := fun W (h : Below W0.heap.size W0 W) => l17Vector_any w.heap.size F b cb v W (hC0.below h).1.pf ok ((hy.below b0).below h)
  rw [hk] at hV
  have HV := hide hV
  cases he : elems F.n v with
  | false =>
   have HN := Lib.hid (show r = ([], 1) by rw [← hR, encRes, okV, hk, fdR_eq, he]; rfl)
   rw [he] at hE
   have HE := hide hE
   clear hV hk hE he hC0
   have f0 := k0.cell 0
   have f1 := k0.cell 1
   have f2 := k0.cell 2
   have f3 := k0.cell 3
   go_enter Try.func48, Try.ntmps48
   go_upto_region 1 with fail
   rw [← HW.out]
   go_wp2_with fail
   refine (unhide HV).mono ?_
   rintro e w1 ⟨rfl, b1⟩
   have k1 := k0.below b1 k0.lt
   have h0 := k1.cell 0
   have h1 := k1.cell 1
   have h2 := k1.cell 2
   have h3 := k1.cell 3
   have bb1 := b0.trans (b1.mono (Nat.le_of_lt sk0))
   go_wp2_with fail
   refine (unhide HE w1 b1).mono ?_
   rintro e w2 ⟨rfl, q2⟩
   have bb2 := Below.chain bb1 (q2.below _)
   go_wp2
   go_ret2
   rw [HN.out]
   exact ⟨_, rfl, Own.nil _ _, bb2⟩
  | true =>
   rw [he] at hE
   have HE := hide hE
   have hRR : r = if v.length = m.length then (encTo F (nthL m 0).length m v v.length, 0) else ([], 6) := by rw [← hR, encRes, okV, hk, fdR_eq, he]; rfl
   have hEl := elems_iff he
   clear hV hk hE he hR
   rw [hC.hn] at hRR
   have HH := hide hC
   by_cases hle : v.length = m.length
   ·
    rw [if_pos hle] at hRR
    have HRR := Lib.hid hRR
    have hm1 := hC.m1
    have hbq : ((v.length : Int) != (m.length : Int)) = false := by rw [hle]; simp
    have hvm : v.length ≤ m.length := by omega
    have HLE := Lib.hid hle
    clear hle
    have hW := fun W (h : Below W0.heap.size W0 W) => l18Encode_any w.heap.size F ra rc m b cb v n W (hC0.below h).1.pf hC.good (hC0.below h).2.1 (hC0.below h).2.2 ((hy.below b0).below h) hm1 hC.mat hC.n1 hC.n32 hvm hEl
    have HWW := hide hW
    clear hW hRR hEl hC0 hC
    have f0 := k0.cell 0
    have f1 := k0.cell 1
    have f2 := k0.cell 2
    have f3 := k0.cell 3
    go_enter Try.func48, Try.ntmps48
    go_upto_region 1 with fail
    rw [← HW.out]
    go_wp2_with fail
    refine (unhide HV).mono ?_
    rintro e w1 ⟨rfl, b1⟩
    have k1 := k0.below b1 k0.lt
    have h0 := k1.cell 0
    have h1 := k1.cell 1
    have h2 := k1.cell 2
    have h3 := k1.cell 3
    have bb1 := b0.trans (b1.mono (Nat.le_of_lt sk0))
    go_wp2_with fail
    refine (unhide HE w1 b1).mono ?_
    rintro e w2 ⟨rfl, q2⟩
    have b2 := Below.chain b1 (q2.below _)
    have k2 := k0.below b2 k0.lt
    have j0 := k2.cell 0
    have j1 := k2.cell 1
    have j2 := k2.cell 2
    have j3 := k2.cell 3
    go_wp2_with fail
    refine (unhide HWW w2 b2).mono ?_
    rintro e w3 ⟨u, rfl, o3, b3⟩
    go_wp2
    go_ret2
    rw [HRR.out]
    exact ⟨_, rfl, o3.mono (by have := b2.size; omega), b0.trans ((Below.chain b2 b3).mono (Nat.le_of_lt sk0))⟩
   ·
    rw [if_neg hle] at hRR
    have HN := Lib.hid hRR
    have hle' : ¬ ((v.length : Int) = (m.length : Int)) := by omega
    clear hRR hEl hC hC0
    have f0 := k0.cell 0
    have f1 := k0.cell 1
    have f2 := k0.cell 2
    have f3 := k0.cell 3
    go_enter Try.func48, Try.ntmps48
    go_upto_region 1 with fail
    rw [← HW.out]
    go_wp2_with fail
    refine (unhide HV).mono ?_
    rintro e w1 ⟨rfl, b1⟩
    have k1 := k0.below b1 k0.lt
    have h0 := k1.cell 0
    have h1 := k1.cell 1
    have h2 := k1.cell 2
    have h3 := k1.cell 3
    have bb1 := b0.trans (b1.mono (Nat.le_of_lt sk0))
    go_wp2_with fail
    refine (unhide HE w1 b1).mono ?_
    rintro e w2 ⟨rfl, q2⟩
    have b2 := Below.chain b1 (q2.below _)
    have bb2 := Below.chain bb1 (q2.below _)
    have k2 := k0.below b2 k0.lt
    have j0 := k2.cell 0
    have j1 := k2.cell 1
    have j2 := k2.cell 2
    have j3 := k2.cell 3
    go_wp2
    go_ret2
    rw [HN.out]
    exact ⟨_, rfl, Own.nil _ _, bb2⟩
theorem implEW_any (p d : Int) (a : Option Addr) (c : Nat) (xs : List Int) (ra : Option Addr) (rc : Nat) (m : List (List Int)) (b : Option Addr) (cb : Nat) (v : List Int) (w : World) (hx : Rd w a xs) (hm : RdS w ra m) (hy : Rd w b v) (ed : I64 d) : Calls Try.prog 42 #[.agg #[.int .i64 p, .int .i64 d, .slice a xs.length c, .slice ra m.length rc], .slice b v.length cb] w (ResL w (encRes p d xs m v)) := by
 have hml := hm.len
 have hvl := hy.len
 generalize hR : encRes p d xs m v = r
 obtain ⟨W0, hHW⟩ : ∃ z, z = w.alloc (.cells #[.int .i64 p, .int .i64 d, .slice a xs.length c, .slice ra m.length rc] 37) := ⟨_, rfl⟩
 have b0 : Below w.heap.size w W0 := by rw [hHW]; exact (Below.refl _ _).alloc (Nat.le_refl _) _
 have k0 : Blk W0 w.heap.size 37 #[.int .i64 p, .int .i64 d, .slice a xs.length c, .slice ra m.length rc] := by rw [hHW]; exact Blk.new _ _ _ rfl
 have sk0 : w.heap.size < W0.heap.size := k0.lt
 have HW := Lib.hid hHW
 clear hHW
 have hV := isVector_any p d a c xs ra rc m b cb v W0 (hx.below b0) (hm.below b0) (hy.below b0) ed
 cases hk : okV p d xs m v with
 | false =>
  have HN := Lib.hid (show r = ([], 1) by rw [← hR, encRes, hk]; rfl)
  rw [hk] at hV
  have HV := hide hV
  clear hV hk hR
  have f0 := k0.cell 0
  have f1 := k0.cell 1
  have f2 := k0.cell 2
  have f3 := k0.cell 3
  go_enter Try.func42, Try.ntmps42
  go_upto_region 1 with fail
  rw [← HW.out]
  go_wp2_with fail
  refine (unhide HV).mono ?_
  rintro e w1 ⟨rfl, b1⟩
  have k1 := k0.below b1 k0.lt
  have h0 := k1.cell 0
  have h1 := k1.cell 1
  have h2 := k1.cell 2
  have h3 := k1.cell 3
  have bb1 := b0.trans (b1.mono (Nat.le_of_lt sk0))
  go_wp2
  go_ret2
  rw [HN.out]
  exact ⟨_, rfl, Own.nil _ _, bb1⟩
 | true =>
  rw [hk] at hV
  have HV := hide hV
  have hk0 := hk
  rw [okV, Bool.and_eq_true] at hk
  obtain ⟨F, n, rfl, rfl, rfl, hC⟩ := okC_gc hk.1
  have he := hk.2
  rw [fdR_eq] at he
  have ok := hC.good.ok
  obtain ⟨n2, n64⟩ := ok.n_bd
  have hRR : r = if v.length = m.length then (encTo F (nthL m 0).length m v v.length, 0) else ([], 6) := by rw [← hR, encRes, hk0, fdR_eq]; rfl
  have hEl := elems_iff he
  clear hV hk hk0 he hR
  rw [hC.hn] at hRR
  have HH := hide hC
  by_cases hle : v.length = m.length
  ·
   rw [if_pos hle] at hRR
   have HRR := Lib.hid hRR
   have hm1 := hC.m1
   have hbq : ((v.length : Int) != (m.length : Int)) = false := by rw [hle]; simp
   have hvm : v.length ≤ m.length := by omega
   have HLE := Lib.hid hle
   clear hle
   have hT := fun W (h : Below W0.heap.size W0 W) => tablesOf_any F a c W ((hx.below b0).below h) ok
   have hW := fun tv W h (hB : Below W0.heap.size W0 W) => encode_any F tv ra rc m b cb v n W h hC.good ((hm.below b0).below hB) ((hy.below b0).below hB) hm1 hC.mat hC.n1 hC.n32 hvm hEl
   have HT := hide hT
   have BX := hide (show ∀ W, Below W0.heap.size W0 W → (Below W0.heap.size W0 W ∧ W.cell? ⟨w.heap.size, 0, none⟩ = some (.int .i64 F.p) ∧ W.cell? ⟨w.heap.size, 1, none⟩ = some (.int .i64 F.k) ∧ W.cell? ⟨w.heap.size, 2, none⟩ = some (.slice a F.poly.length c) ∧ W.cell? ⟨w.heap.size, 3, none⟩ = some (.slice ra m.length rc)) from fun W h => ⟨h, (k0.below h k0.lt).cell 0, (k0.below h k0.lt).cell 1, (k0.below h k0.lt).cell 2, (k0.below h k0.lt).cell 3⟩)
   have HWW := hide hW
   clear hT hW hRR hEl hC
   have f0 := k0.cell 0
   have f1 := k0.cell 1
   have f2 := k0.cell 2
   have f3 := k0.cell 3
   go_enter Try.func42, Try.ntmps42
   go_upto_region 1 with fail
   rw [← HW.out]
   go_wp2_with fail
   refine (unhide HV).mono ?_
   rintro e w1 ⟨rfl, b1⟩
   have k1 := k0.below b1 k0.lt
   have h0 := k1.cell 0
   have h1 := k1.cell 1
   have h2 := k1.cell 2
   have h3 := k1.cell 3
   have bb1 := b0.trans (b1.mono (Nat.le_of_lt sk0))
   go_upto_region 5 with fail
   go_region_held3 (fun W => Below W0.heap.size W0 W ∧ W.cell? ⟨w.heap.size, 0, none⟩ = some (.int .i64 F.p) ∧ W.cell? ⟨w.heap.size, 1, none⟩ = some (.int .i64 F.k) ∧ W.cell? ⟨w.heap.size, 2, none⟩ = some (.slice a F.poly.length c) ∧ W.cell? ⟨w.heap.size, 3, none⟩ = some (.slice ra m.length rc))
    (first | exact (unhide BX) _ b1.drew | exact (unhide BX) _ (by assumption))
    (first
     | (go_at_call 89; refine (unhide HT _ ?_).mono ?_; exact And.left (by assumption); rintro e w2 ⟨tv, rfl, t2, b2⟩; have hB2 := Below.chain (a := W0) (And.left (by assumption)) b2)
     | (go_at_call 128; refine (unhide HWW tv _ t2 hB2).mono ?_; rintro e w3 ⟨u, rfl, o3, b3⟩; have hB3 := Below.chain hB2 b3))
   go_wp2
   go_ret2
   rw [HRR.out]
   exact ⟨_, rfl, o3.mono (by have := hB2.size; omega), b0.trans (hB3.mono (Nat.le_of_lt sk0))⟩
  ·
   rw [if_neg hle] at hRR
   have HN := Lib.hid hRR
   have hle' : ¬ ((v.length : Int) = (m.length : Int)) := by omega
   clear hRR hEl hC
   have f0 := k0.cell 0
   have f1 := k0.cell 1
   have f2 := k0.cell 2
   have f3 := k0.cell 3
   go_enter Try.func42, Try.ntmps42
   go_upto_region 1 with fail
   rw [← HW.out]
   go_wp2_with fail
   refine (unhide HV).mono ?_
   rintro e w1 ⟨rfl, b1⟩
   have k1 := k0.below b1 k0.lt
   have h0 := k1.cell 0
   have h1 := k1.cell 1
   have h2 := k1.cell 2
   have h3 := k1.cell 3
   have bb1 := b0.trans (b1.mono (Nat.le_of_lt sk0))
   go_wp2
   go_ret2
   rw [HN.out]
   exact ⟨_, rfl, Own.nil _ _, bb1⟩
end Go.Proofs.Ytgmgpcaahanmiaa
namespace Go.Proofs.Ytgmgpcaahanmiaa
open Go.RowKit
section
variable {F : FD}
theorem encTo_sum (ok : F.Ok) (n : Nat) (rows : List (List Int)) (msg : List Int) (k : Nat) {i : Nat} (hi : i < n) : nth (encTo F n rows msg k) i = F.sum (fun j => F.mul (nth msg j) (nth (nthL rows j) i)) k := by
 induction k with
 | zero => rw [encTo, zeros_nth]; rfl
 | succ k ih =>
  rw [encTo, addTo_nth F _ _ _ _ (by rw [encTo_len]; exact Nat.le_refl _), if_pos hi, ih]
  rfl
theorem encTo_piv (ok : F.Ok) {n : Nat} {rows : List (List Int)} {pv : List Nat} (h : Ech F n rows pv) {msg : List Int} (hm : ∀ c ∈ msg, 0 ≤ c ∧ c < F.n) {l : Nat} (hl : l < rows.length) : nth (encTo F n rows msg rows.length) (pv.getD l 0) = nth msg l := by
 have hlp : l < pv.length := by rw [h.len]; exact hl
 have hel : F.el (nth msg l) := by
  rcases Nat.lt_or_ge l msg.length with hh | hh
  · exact (el_n ok).2 (hm _ (nth_mem hh))
  · rw [nth_big hh]; exact zero_el ok
 rw [encTo_sum ok n rows msg _ (h.lt l hlp), sum_one ok (l := l) hl (mul_el ok _ _) (fun j hj hne => by rw [h.one j l (by rw [h.len]; exact hj) hlp, if_neg hne, mul_zero_all ok])]
 rw [h.one l l hlp hlp, if_pos rfl, mul_comm' ok, one_mul' ok hel]
end
def wtTo (xs : List Int) : Nat → Nat
 | 0 => 0
 | k + 1 => if nth xs k = 0 then wtTo xs k else wtTo xs k + 1
def wt (xs : List Int) : Nat := wtTo xs xs.length
theorem wtTo_le (xs : List Int) (k : Nat) : wtTo xs k ≤ k := by
 induction k with
 | zero => exact Nat.le_refl _
 | succ k ih => rw [wtTo]; split <;> omega
theorem wtTo_pos {xs : List Int} {k i : Nat} (hi : i < k) (h : nth xs i ≠ 0) : 1 ≤ wtTo xs k := by
 induction k with
 | zero => omega
 | succ k ih =>
  rw [wtTo]
  by_cases e : i = k
  · subst e; rw [if_neg h]; omega
  · have := ih (by omega)
    split <;> omega
def cntW (words : List (List Int)) (n : Nat) : Nat → List Int
 | 0 => zeros (n + 1)
 | k + 1 => (cntW words n k).set (wt (nthL words k)) (nth (cntW words n k) (wt (nthL words k)) + 1)
theorem cntW_len (words : List (List Int)) (n k : Nat) : (cntW words n k).length = n + 1 := by
 induction k with
 | zero => exact zeros_len _
 | succ k ih => rw [cntW, List.length_set, ih]
theorem cntW_bd (words : List (List Int)) (n k i : Nat) : 0 ≤ nth (cntW words n k) i ∧ nth (cntW words n k) i ≤ k := by
 induction k generalizing i with
 | zero => rw [cntW, zeros_nth]; omega
 | succ k ih =>
  rw [cntW]
  by_cases e : wt (nthL words k) = i
  · subst e
    by_cases hl : wt (nthL words k) < (cntW words n k).length
    · rw [nth_set_same hl]
      have := ih (wt (nthL words k))
      omega
    · rw [nth_big (by rw [List.length_set]; omega)]; omega
  · rw [nth_set_ne e]
    have := ih i
    omega
theorem cntW_pos {words : List (List Int)} {n k j : Nat} (hj : j < k) (hn : wt (nthL words j) ≤ n) : 1 ≤ nth (cntW words n k) (wt (nthL words j)) := by
 induction k with
 | zero => omega
 | succ k ih =>
  rw [cntW]
  by_cases e : wt (nthL words k) = wt (nthL words j)
  · rw [e, nth_set_same (by rw [cntW_len]; omega)]
    have := (cntW_bd words n k (wt (nthL words j))).1
    omega
  · rw [nth_set_ne e]
    by_cases e2 : j = k
    · exact absurd (by rw [e2]) e
    · exact ih (by omega)
def leastD (counts : List Int) : Nat := ((List.range counts.length).find? (fun d => decide (1 ≤ d) && (nth counts d != 0))).getD 0
theorem leastD_hit {counts : List Int} {d : Nat} (h1 : 1 ≤ d) (h2 : d < counts.length) (h3 : nth counts d ≠ 0) (h4 : ∀ j, 1 ≤ j → j < d → nth counts j = 0) : leastD counts = d := by
 have : (List.range counts.length).find? (fun d => decide (1 ≤ d) && (nth counts d != 0)) = some d := by
  rw [List.find?_range_eq_some]
  refine ⟨by simp [h1, h3], List.mem_range.2 h2, fun j hj => ?_⟩
  by_cases h : 1 ≤ j
  · simp [h4 j h hj]
  · simp [h]
 rw [leastD, this]; rfl
theorem hig_nth {j q k i : Nat} (hi : i < k) : nth (hig j q k) i = (j : Int) / (q : Int) ^ (k - 1 - i) % (q : Int) := by
 have h : nth (dig (j : Int) (q : Int) k).reverse i = nth (dig (j : Int) (q : Int) k) ((dig (j : Int) (q : Int) k).length - 1 - i) := by
  simp only [nth, List.getD_eq_getElem?_getD]
  rw [List.getElem?_reverse (by rw [dig_len]; exact hi)]
 rw [hig, h, dig_len, dig_nth _ _ (by omega)]
theorem GC.some_word {F : FD} {n : Nat} {m : List (List Int)} (h : GC F n m) : ∃ j, j < F.n ^ m.length ∧ 1 ≤ wt (nthL (wordsTo F n m m.length) j) ∧ wt (nthL (wordsTo F n m m.length) j) ≤ n := by
 have ok := h.good.ok
 obtain ⟨n2, n64⟩ := ok.n_bd
 obtain ⟨pv, _, hE, _⟩ := form_ech h.good h.mat
 rw [h.fix] at hE
 have hm := h.m1
 have hj : 1 < F.n ^ m.length := Nat.one_lt_pow (by omega) (by omega)
 refine ⟨1, hj, ?_, ?_⟩
 · rw [wordsTo_nth F n m hj, wt, encTo_len]
   refine wtTo_pos (i := pv.getD (m.length - 1) 0) (hE.lt _ (by rw [hE.len]; omega)) ?_
   rw [encTo_piv ok hE (hig_el 1 (by omega) _) (by omega), hig_nth (by omega), show m.length - 1 - (m.length - 1) = 0 by omega]
   simp only [Int.pow_zero, Int.ediv_one]
   rw [Int.emod_eq_of_lt (by omega) (by omega)]
   omega
 · have := wtTo_le (nthL (wordsTo F n m m.length) 1) (nthL (wordsTo F n m m.length) 1).length
   rw [wordsTo_nth F n m hj, encTo_len] at this
   rw [wordsTo_nth F n m hj, wt, encTo_len]
   exact this
end Go.Proofs.Ytgmgpcaahanmiaa
namespace Go.Proofs.Ytgmgpcaahanmiaa
open Go.RowKit
attribute [local go_sem ↓] Go.wp_at_zero Go.wp_at_succ
theorem highFirst_any (j q k : Nat) (w : World) (hj : (j : Int) ≤ 9223372036854775807) (hq : 1 ≤ q) (hq2 : q ≤ 1000000) (hk0 : 1 ≤ k) (hk : k ≤ 1000000) :
    Calls Try.prog 204 #[.int .i64 j, .int .i64 q, .int .i64 k] w fun e w' => ∃ v, e = .returned v ∧ Own w' w.heap.size v (hig j q k) ∧ Below w.heap.size w w' := by
 have hd := fun W => digitsOf_any j q k W (by omega) (by omega) (by omega) (by omega) hk
 have HD := hide hd
 clear hd
 go_enter Try.func204, Try.ntmps204
 go_wp2_with fail
 refine (unhide HD _).mono ?_
 rintro e w1 ⟨v1, rfl, o1, b1⟩
 obtain ⟨g1, c1, rfl, q1, z1, cc1, cd1⟩ := o1.at_len (dig_len _ _ _) hk0
 have hr := reverse_any g1 c1 w.heap.size (dig j q k) w1 (by rw [dig_len]; exact o1)
 rw [dig_len] at hr
 have HR := hide hr
 clear hr
 go_wp2_with fail
 refine (unhide HR).mono ?_
 rintro e w2 ⟨rfl, o2, b2⟩
 go_wp2
 go_ret
 exact ⟨_, rfl, o2, b1.trans b2⟩
def wordsUp (F : FD) (n : Nat) (rows : List (List Int)) (k j : Nat) : List (List Int) := (List.range j).map fun i => encTo F n rows (hig i F.n k) k
theorem wordsUp_len (F : FD) (n : Nat) (rows : List (List Int)) (k j : Nat) : (wordsUp F n rows k j).length = j := by simp [wordsUp]
theorem wordsUp_succ (F : FD) (n : Nat) (rows : List (List Int)) (k j : Nat) : wordsUp F n rows k (j + 1) = wordsUp F n rows k j ++ [encTo F n rows (hig j F.n k) k] := by simp [wordsUp, List.range_succ]
theorem GC.cap_eq {F : FD} {n : Nat} {m : List (List Int)} (h : GC F n m) : capTo F.n 4096 m.length = ((F.n ^ m.length : Nat) : Int) ∧ F.n ^ m.length ≤ 4096 := by
 have h1 := cap_exact' h.cap
 have h2 := h.cap
 rw [h1] at h2
 have e : ((F.n : Int)) ^ m.length = ((F.n ^ m.length : Nat) : Int) := (Int.natCast_pow _ _).symm
 rw [e] at h1 h2
 exact ⟨h1, Int.ofNat_le.1 h2⟩
theorem wordsOf_any (F : FD) (ap : Option Addr) (cp : Nat) (ra : Option Addr) (rc : Nat) (m : List (List Int)) (n : Nat) (w : World) (hR : Rd w ap F.poly) (hm : RdS w ra m) (hC : GC F n m) :
    Calls Try.prog 135 #[.agg #[.int .i64 F.p, .int .i64 F.k, .slice ap F.poly.length cp, .slice ra m.length rc]] w fun e w' => ∃ v, e = .returned v ∧ OwnS w' w.heap.size v (wordsTo F n m m.length) ∧ Below w.heap.size w w' := by
 have hml := hm.len
 have hG := hC.good
 have ok := hG.ok
 obtain ⟨n2, n64⟩ := ok.n_bd
 have hm1 := hC.m1
 have hm8 := hC.m8
 obtain ⟨hcap, hQ⟩ := hC.cap_eq
 obtain ⟨W0, hHW⟩ : ∃ z, z = w.alloc (.cells #[.int .i64 F.p, .int .i64 F.k, .slice ap F.poly.length cp, .slice ra m.length rc] 37) := ⟨_, rfl⟩
 have b0 : Below w.heap.size w W0 := by rw [hHW]; exact (Below.refl _ _).alloc (Nat.le_refl _) _
 have k0 : Blk W0 w.heap.size 37 #[.int .i64 F.p, .int .i64 F.k, .slice ap F.poly.length cp, .slice ra m.length rc] := by rw [hHW]; exact Blk.new _ _ _ rfl
 have sk0 : w.heap.size < W0.heap.size := k0.lt
 have HW := Lib.hid hHW
 clear hHW
 have hT := tablesOf_any F ap cp W0 (hR.below b0) ok
 have HT := hide hT
 clear hT
 have f0 := k0.cell 0
 have f1 := k0.cell 1
 have f2 := k0.cell 2
 go_enter Try.func135, Try.ntmps135
 go_upto_region 1 with fail
 rw [← HW.out]
 go_wp2_with fail
 refine (unhide HT).mono ?_
 rintro e w1 ⟨tv, rfl, t1, b1⟩
 obtain ⟨aA, cA, aS, cS, aM, cM, aI, cI, rfl, t1A, t1S, t1M, t1I⟩ := t1
 obtain ⟨W1, hH1⟩ : ∃ z, z = w1.alloc (.cells #[.int .i64 F.n, .slice aA F.n cA, .slice aS F.n cS, .slice aM F.n cM, .slice aI F.n cI] 93) := ⟨_, rfl⟩
 have b1x : Below w1.heap.size w1 W1 := by rw [hH1]; exact (Below.refl _ _).alloc (Nat.le_refl _) _
 have kT : Blk W1 w1.heap.size 93 #[.int .i64 F.n, .slice aA F.n cA, .slice aS F.n cS, .slice aM F.n cM, .slice aI F.n cI] := by rw [hH1]; exact Blk.new _ _ _ rfl
 have H1 := Lib.hid hH1
 clear hH1
 have t2 : Tabs W1 F (.agg #[.int .i64 F.n, .slice aA F.n cA, .slice aS F.n cS, .slice aM F.n cM, .slice aI F.n cI]) := ⟨aA, cA, aS, cS, aM, cM, aI, cI, rfl, t1A.below b1x, t1S.below b1x, t1M.below b1x, t1I.below b1x⟩
 have c1 := Below.chain b1 b1x
 have k1 := k0.below c1 k0.lt
 have z1 := c1.size
 have bw1 : Below w.heap.size w W1 := b0.trans (c1.mono (Nat.le_of_lt sk0))
 have zw := bw1.size
 have hHF := fun (j : Nat) (hj : j < F.n ^ m.length) W => highFirst_any j F.n m.length W (by omega) (by omega) (by omega) (by omega) (by omega)
 have hEN := fun (j : Nat) (b : Option Addr) (cb : Nat) W (hy : Rd W b (hig j F.n m.length)) (hB : Below W1.heap.size W1 W) => encode_any F _ ra rc m b cb (hig j F.n m.length) n W (t2.below hB) hG ((hm.below bw1).below hB) hy hm1 hC.mat hC.n1 hC.n32 (by rw [hig_len]; exact Nat.le_refl _) (hig_el j (by omega) _)
 have hPW := fun W => powerUpTo_any F.n m.length 4096 W (by omega) (by omega) (by omega) (by omega) (by omega)
 rw [Int.toNat_natCast, hcap] at hPW
 have hWT : wordsTo F n m m.length = wordsUp F n m m.length (F.n ^ m.length) := rfl
 have hEL := fun j => encTo_len F n m (hig j F.n m.length) m.length
 obtain ⟨Q, hQQ⟩ : ∃ Q, Q = F.n ^ m.length := ⟨_, rfl⟩
 rw [← hQQ] at hHF hPW hWT hQ
 have HHF := hide hHF
 have HEN := hide hEN
 have HPW := hide hPW
 have HWT := Lib.hid hWT
 clear hHF hEN hPW hWT hQQ hcap t1A t1S t1M t1I f0 f1 f2
 have f3 := k1.cell 3
 have g0 := kT.cell 0
 have g1 := kT.cell 1
 have g2 := kT.cell 2
 have g3 := kT.cell 3
 have g4 := kT.cell 4
 have BX := hide (show ∀ W, Below W1.heap.size W1 W → (Below W1.heap.size W1 W ∧ W.cell? ⟨w.heap.size, 3, none⟩ = some (.slice ra m.length rc) ∧ W.cell? ⟨w1.heap.size, 0, none⟩ = some (.int .i64 F.n) ∧ W.cell? ⟨w1.heap.size, 1, none⟩ = some (.slice aA F.n cA) ∧ W.cell? ⟨w1.heap.size, 2, none⟩ = some (.slice aS F.n cS) ∧ W.cell? ⟨w1.heap.size, 3, none⟩ = some (.slice aM F.n cM) ∧ W.cell? ⟨w1.heap.size, 4, none⟩ = some (.slice aI F.n cI)) from fun W h => ⟨h, (k1.below h k1.lt).cell 3, (kT.below h kT.lt).cell 0, (kT.below h kT.lt).cell 1, (kT.below h kT.lt).cell 2, (kT.below h kT.lt).cell 3, (kT.below h kT.lt).cell 4⟩)
 go_upto_region 2 with fail
 rw [← H1.out]
 go_wp2_with fail
 refine (sizeS_any _ _ _ _).mono ?_
 rintro e w2 ⟨rfl, rfl⟩
 go_wp2_with fail
 refine (unhide HPW _).mono ?_
 rintro e w2 ⟨rfl, rfl⟩
 go_wp2_with fail
 go_loopw [5, 17] (fun v iv wr => ∃ j : Nat, iv = .int .i64 j ∧ j ≤ Q ∧ Hid (OwnS wr W1.heap.size v (wordsUp F n m m.length j)) ∧ Below W1.heap.size W1 wr) (fun _ iv _ => Q - (intOf iv).toNat)
 case atStart => exact ⟨0, rfl, Nat.zero_le _, OwnS.nil _ _, Below.refl _ _⟩
 case round =>
  obtain ⟨j, rfl, hj, ho, hb⟩ := hrel
  have hsz := hb.size
  by_cases hjq : j < Q
  · have hf := unhide HHF j hjq
    have he := unhide HEN j
    have hst := wordsUp_succ F n m m.length j
    have hel := hEL j
    obtain ⟨msg, hmsg⟩ : ∃ msg, msg = hig j F.n m.length := ⟨_, rfl⟩
    have hmsgl : msg.length = m.length := by rw [hmsg, hig_len]
    obtain ⟨wd, hwd⟩ : ∃ wd, wd = encTo F n m msg m.length := ⟨_, rfl⟩
    rw [← hmsg] at hf he hst hel
    rw [hmsgl] at he
    rw [← hwd] at hst he hel
    have HF := hide hf
    have HE := hide he
    have HST := Lib.hid hst
    have HML := Lib.hid hmsgl
    have hlen : (wordsUp F n m m.length j).length + 1 ≤ 1073741824 := by rw [wordsUp_len]; omega
    clear hf he hst hmsg hmsgl hwd hel
    go_upto_region 7 with fail
    go_region_held3 (fun W => Below W1.heap.size W1 W ∧ W.cell? ⟨w.heap.size, 3, none⟩ = some (.slice ra m.length rc) ∧ W.cell? ⟨w1.heap.size, 0, none⟩ = some (.int .i64 F.n) ∧ W.cell? ⟨w1.heap.size, 1, none⟩ = some (.slice aA F.n cA) ∧ W.cell? ⟨w1.heap.size, 2, none⟩ = some (.slice aS F.n cS) ∧ W.cell? ⟨w1.heap.size, 3, none⟩ = some (.slice aM F.n cM) ∧ W.cell? ⟨w1.heap.size, 4, none⟩ = some (.slice aI F.n cI))
     (first | exact (unhide BX) _ hb | exact (unhide BX) _ (hb.drew) | exact (unhide BX) _ (by assumption) | exact (unhide BX) _ hB4 | exact (unhide BX) _ (hB3.alloc hZ3 _))
     (first
      | (go_at_call 204; refine (unhide HF _).mono ?_; rintro e w2 ⟨v2, rfl, o2, b2⟩; obtain ⟨a2, c2, rfl, r2, _⟩ := o2.form; rw [HML.out]; have hB2 := Below.chain (a := W1) (And.left (by assumption)) b2)
      | (go_at_call 128; refine (unhide HE _ _ _ r2 hB2).mono ?_; rintro e w3 ⟨v3, rfl, o3, b3⟩; obtain ⟨a3, c3, rfl, _, _⟩ := o3.form; have hB3 := Below.chain hB2 b3; have hZ3 := hB3.size; have hQ2 := b2.size; have hQ3 := b3.size; have q3 := ((ho.out.drewN 1).toH.belw b2 (Nat.le_refl _)).belw b3 hQ2; have p3 := o3.mono hQ2)
      | (refine step_append_row rfl (.tmp 20) (.tmp 30) rfl rfl (q3.belw ((Below.refl _ _).alloc (Nat.le_refl _) _) (Nat.le_trans hQ2 hQ3)) _ rfl ((Blk.new w3 22 #[.slice a3 wd.length c3] rfl).cell 0) (p3.alloc _) hsz (alloc_le (Nat.le_trans hQ2 hQ3) _) hlen ?_; intro v4 W4 o4 g4 _; have hB4 := Below.stepS (hB3.alloc hZ3 _) g4 (q3.belw ((Below.refl _ _).alloc (Nat.le_refl _) _) (Nat.le_trans hQ2 hQ3)).own (Nat.le_refl _) (alloc_le hZ3 _)))
    have hb4 := hB4
    clear hB4 hB3 hB2
    go_wp2
    go_roundw
    case rel => exact ⟨j + 1, by go_num, by omega, by show OwnS _ _ _ _; rw [HST.out]; exact o4, hb4⟩
    case measure => simp only [intOf]; omega
  · have hke : j = Q := by omega
    have HE := Lib.hid hke
    clear hke
    go_wp2
    go_ret
    exact ⟨_, rfl, by have o := ho.out; rw [HE.out, ← HWT.out] at o; exact o.mono zw, bw1.trans (hb.mono zw)⟩
end Go.Proofs.Ytgmgpcaahanmiaa
namespace Go.Proofs.Ytgmgpcaahanmiaa
open Go.RowKit
attribute [local go_sem ↓] Go.wp_at_zero Go.wp_at_succ
def plusF (F : FD) (xs ys : List Int) : Int → Int → Int := fun _ i => F.add (nth xs i.toNat) (nth ys i.toNat)
theorem plus_row (F : FD) (xs ys : List Int) : rowF (plusF F xs ys) xs.length 0 = plus F xs ys := by
 rw [rowF, plus]
 rfl
theorem l18Plus_any (g : Nat) (F : FD) (a b : Option Addr) (c d : Nat) (xs ys : List Int) (n : Nat) (w : World) (hF : PF w g F) (ok : F.Ok) (hx : Rd w a xs) (hy : Rd w b ys) (hxl : xs.length = n) (hyl : ys.length = n) (hn1 : 1 ≤ n) (hn : n ≤ 1000) (hm : ∀ x ∈ xs, 0 ≤ x ∧ x < F.n) (hm2 : ∀ y ∈ ys, 0 ≤ y ∧ y < F.n) :
    Calls Try.prog 228 #[.pointer (some ⟨g, 0, none⟩), .slice a n c, .slice b n d] w fun e w' => ∃ v, e = .returned v ∧ Own w' w.heap.size v (plus F xs ys) ∧ Below w.heap.size w w' := by
 obtain ⟨n2, n64⟩ := ok.n_bd
 have hpr := plus_row F xs ys
 rw [hxl] at hpr
 have hmk := fun W => run_make_row' (P := Try.prog) 22 2 (.int .i64 0) 8 Try.underlying22 Try.info_i64 rfl .i64 .i64 n (by omega) (by omega) W
 obtain ⟨gx, ox, rfl, hgx, hcx⟩ := hx.at_ (by omega)
 obtain ⟨gy, oy, rfl, hgy, hcy⟩ := hy.at_ (by omega)
 have HCX := hide hcx
 have HCY := hide hcy
 have HX := hide hm
 have HY := hide hm2
 have HF := hide hF
 have HPR := Lib.hid hpr
 have HXL := Lib.hid hxl
 have HYL := Lib.hid hyl
 clear hcx hcy hx hy hm hm2 hF hpr hxl hyl
 go_enter Try.func228, Try.ntmps228
 go_upto_region 2 with fail
 obtain ⟨W1, hW1⟩ : ∃ z, z = w.alloc (.cells (madeCells #[.int .i64 0] n) 2) := ⟨_, rfl⟩
 have oz : Own W1 w.heap.size (.slice (some ⟨w.heap.size, 0, none⟩) n n) (zeros n) := by rw [hW1]; exact Own.zeros w (Nat.le_refl _) (by omega)
 have bz : Below w.heap.size w W1 := by rw [hW1]; exact (Below.refl _ _).alloc (Nat.le_refl _) _
 rw [← hW1]
 clear hW1
 have OZ := Lib.hid oz
 clear oz hmk
 go_wp2_with fail
 go_loopw [8] (fun iv wr => ∃ k : Nat, iv = .int .i64 k ∧ k ≤ n ∧ Hid (Own wr w.heap.size (.slice (some ⟨w.heap.size, 0, none⟩) n n) (rowTo (plusF F xs ys) n 0 k)) ∧ Below w.heap.size w wr) (fun iv _ => n - (intOf iv).toNat)
 case atStart => exact ⟨0, rfl, Nat.zero_le _, OZ, bz⟩
 case round =>
  obtain ⟨k, rfl, hk, ho, hb⟩ := hrel
  by_cases hkn : k < n
  · have hsz := hb.size
    have hrl := rowTo_len (plusF F xs ys) n 0 k
    have c36 := ho.out.cell (j := k) (by rw [hrl]; exact hkn)
    rw [rowTo_nth (plusF F xs ys) n 0 k hk k hkn, if_neg (by omega)] at c36
    have f36 := ho.out.frozen k
    have hG1 : w.heap.size < wr.heap.size := World.block_lt_of_cell? wr _ c36
    have hxr := unhide HX _ (nth_mem (k := k) (by rw [HXL.out]; exact hkn))
    have hyr := unhide HY _ (nth_mem (k := k) (by rw [HYL.out]; exact hkn))
    have cx := unhide HCX k (by rw [HXL.out]; exact hkn)
    have cy := unhide HCY k (by rw [HYL.out]; exact hkn)
    have hst : rowTo (plusF F xs ys) n 0 (k + 1) = (rowTo (plusF F xs ys) n 0 k).set k (F.add (nth xs k) (nth ys k)) := by rw [rowTo]; rfl
    obtain ⟨x, hX⟩ : ∃ x, x = nth xs k := ⟨_, rfl⟩
    obtain ⟨y, hY⟩ : ∃ y, y = nth ys k := ⟨_, rfl⟩
    rw [← hX] at cx hxr hst
    rw [← hY] at cy hyr hst
    have cx := (hb.cell (p := ⟨gx, ox + k, none⟩) hgx).trans cx
    have cy := (hb.cell (p := ⟨gy, oy + k, none⟩) hgy).trans cy
    clear hX hY hrl
    by_cases hy0 : y = 0
    · have hbe : (y == 0) = true := by rw [hy0]; rfl
      have hadd : F.add x y = x := by rw [hy0]; exact add_zero' ok ((el_n ok).2 hxr)
      rw [hadd] at hst
      have HST := Lib.hid hst
      clear hst hy0 hadd
      go_wp2_with fail
      go_roundw
      case rel =>
       have hs := ho.out.set k x
       refine ⟨k + 1, by go_num, by omega, ?_, hb.grown hs.2 (by omega) (fun q hq => by injection hq; omega)⟩
       show Own _ _ _ _
       rw [HST.out]
       exact hs.1
      case measure => simp only [intOf]; omega
    · have hbe : (y == 0) = false := by rw [beq_eq_false_iff_ne]; exact hy0
      have hsum := fun W (h : Below wr.heap.size wr W) => (l03Sum_any g F x y 1 W ((unhide HF).below (hb.trans (h.mono hsz))) ok hxr.1 (by omega) hyr.1 (by omega) (by omega) (by omega)).mono fun e w' q => And.intro q.1 (Below.chain h q.2)
      change ∀ W, Below wr.heap.size wr W → Calls Try.prog 82 #[.pointer (some ⟨g, 0, none⟩), .int .i64 x, .int .i64 y, .int .i64 1] W fun r w' => r = .returned (.int .i64 (F.add x y)) ∧ Below wr.heap.size wr w' at hsum
      obtain ⟨D, hD⟩ : ∃ D, D = F.add x y := ⟨_, rfl⟩
      rw [← hD] at hsum hst
      have later : ∀ W, Below wr.heap.size wr W → (W.cell? ⟨w.heap.size, k, none⟩ = some (.int .i64 0) ∧ W.frozen? ⟨w.heap.size, k, none⟩ = false) := fun W h => ⟨(h.cell (p := ⟨w.heap.size, k, none⟩) hG1).trans c36, (ho.out.below h (Nat.le_refl _)).frozen k⟩
      have LT := hide later
      have HSUM := hide hsum
      have HST := Lib.hid hst
      clear hD hsum hst later hy0
      go_upto_region 7 with fail
      go_region_with (first
       | (go_at_call 82; refine (unhide HSUM _ ?_).mono ?_; first | exact Below.refl _ _ | exact (Below.refl _ _).drew; rintro e W2 ⟨rfl, b2⟩; have d37 := (unhide LT _ b2).1; have f37 := (unhide LT _ b2).2))
      all_goals
       go_wp2
       go_roundw
       case rel =>
        have hs := (ho.out.below b2 (Nat.le_refl _)).set k D
        refine ⟨k + 1, by go_num, by omega, ?_, (hb.trans (b2.mono hsz)).grown hs.2 (by have := b2.size; omega) (fun q hq => by injection hq; omega)⟩
        show Own _ _ _ _
        rw [HST.out]
        exact hs.1
       case measure => simp only [intOf]; omega
  · have hke : k = n := by omega
    have HE := Lib.hid hke
    clear hke
    go_wp2_with fail
    go_ret
    exact ⟨_, rfl, by have h := ho.out; rw [HE.out, rowTo_all, HPR.out] at h; exact h, hb⟩
theorem OwnS.single {w : World} {B : Nat} {r : Value} {xs : List Int} (h : Own w B r xs) (hB : B ≤ w.heap.size) : OwnS (w.alloc (.cells #[r] 22)) B (.slice (some ⟨w.heap.size, 0, none⟩) 1 1) [xs] := by
 refine ⟨by simp, [r], ⟨by simp, .inr ⟨w.heap.size, 1, #[r], rfl, hB, heap_alloc_new w _, Nat.le_refl _, by unfold maxLen; omega, by simp, rfl⟩⟩, rfl, fun i x hx => ?_, fun i j x y k hij hx hy => ?_⟩
 · have hi := (List.getElem?_eq_some_iff.1 hx).1
   simp at hi
   subst hi
   simp at hx
   subst hx
   exact h.alloc _
 · have hi := (List.getElem?_eq_some_iff.1 hx).1
   have hj := (List.getElem?_eq_some_iff.1 hy).1
   simp at hi hj
   omega
def multTo (F : FD) (row : List Int) (x : Nat) : List (List Int) := (List.range x).map fun (y : Nat) => scale F y row
theorem multTo_len (F : FD) (row : List Int) (x : Nat) : (multTo F row x).length = x := by simp [multTo]
theorem multTo_succ (F : FD) (row : List Int) (x : Nat) : multTo F row (x + 1) = multTo F row x ++ [scale F x row] := by simp [multTo, List.range_succ]
theorem multTo_nth (F : FD) (row : List Int) {x y : Nat} (h : y < x) : nthL (multTo F row x) y = scale F y row := by simp [multTo, nthL, h]
def nextTo (F : FD) (n : Nat) (wds : List (List Int)) (row : List Int) (k : Nat) : List (List Int) := (wds.take k).flatMap fun wd => (List.range F.n).map fun (x : Nat) => addTo F wd row x n
def nextIn (F : FD) (n : Nat) (wds : List (List Int)) (row : List Int) (k x : Nat) : List (List Int) := nextTo F n wds row k ++ (List.range x).map fun (y : Nat) => addTo F (nthL wds k) row y n
theorem nextTo_len (F : FD) (n : Nat) (wds : List (List Int)) (row : List Int) {k : Nat} (hk : k ≤ wds.length) : (nextTo F n wds row k).length = k * F.n := by
 induction k with
 | zero => simp [nextTo]
 | succ k ih =>
  have ih := ih (by omega)
  rw [nextTo] at ih ⊢
  rw [take_nthL (by omega), List.flatMap_append, List.length_append, ih]
  simp [Nat.succ_mul]
theorem nextIn_len (F : FD) (n : Nat) (wds : List (List Int)) (row : List Int) {k x : Nat} (hk : k ≤ wds.length) : (nextIn F n wds row k x).length = k * F.n + x := by
 rw [nextIn, List.length_append, nextTo_len F n wds row hk]
 simp
theorem nextIn_succ (F : FD) (n : Nat) (wds : List (List Int)) (row : List Int) (k x : Nat) : nextIn F n wds row k (x + 1) = nextIn F n wds row k x ++ [addTo F (nthL wds k) row x n] := by simp [nextIn, List.range_succ]
theorem nextIn_all (F : FD) (n : Nat) (wds : List (List Int)) (row : List Int) {k : Nat} (hk : k < wds.length) : nextIn F n wds row k F.n = nextTo F n wds row (k + 1) := by
 rw [nextIn, nextTo, nextTo, take_nthL hk, List.flatMap_append]
 simp
theorem l18Words_any (g : Nat) (F : FD) (ra : Option Addr) (rc : Nat) (m : List (List Int)) (n : Nat) (w : World) (hF : PF w g F) (hc3 : w.cell? ⟨g, 3, none⟩ = some (.slice ra m.length rc)) (hm : RdS w ra m) (hC : GC F n m) :
    Calls Try.prog 202 #[.pointer (some ⟨g, 0, none⟩)] w fun e w' => ∃ v, e = .returned v ∧ OwnS w' w.heap.size v (wordsTo F n m m.length) ∧ Below w.heap.size w w' := by
 have hml := hm.len
 have hG := hC.good
 have ok := hG.ok
 obtain ⟨n2, n64⟩ := ok.n_bd
 have hm1 := hC.m1
 have hm8 := hC.m8
 have hn1 := hC.n1
 have hn32 := hC.n32
 obtain ⟨_, hQ⟩ := hC.cap_eq
 have hglt : g < w.heap.size := World.block_lt_of_cell? w _ hc3
 have hmk := fun W => run_make_row' (P := Try.prog) 22 2 (.int .i64 0) 8 Try.underlying22 Try.info_i64 rfl .i64 .i64 n (by omega) (by omega) W
 have hle : ∀ i, i ≤ m.length → F.n ^ i ≤ 4096 := fun i hi => Nat.le_trans (Nat.pow_le_pow_right (by omega) hi) hQ
 have HLE := hide hle
 have hMat := hC.mat
 obtain ⟨gb, ob, rfl, hgb, hcc⟩ := hm.at_ hm1
 obtain ⟨ai0, ci0, h00, _⟩ := hcc 0 hm1
 rw [Nat.add_zero, (Mat_nth hMat hm1).1] at h00
 have hsz1 := fun W (h : Below w.heap.size w W) => l03Size_qt g F W (hF.below h) ok
 have HSZ := hide hsz1
 have HCC := hide hcc
 have HMM := hide hMat
 have HF := hide hF
 have HQ := hide hQ
 clear hcc hm hMat hF hle hsz1 hQ
 go_enter Try.func202, Try.ntmps202
 go_upto_region 2 with fail
 obtain ⟨W1, hW1⟩ : ∃ z, z = (w.alloc (.cells (madeCells #[.int .i64 0] n) 2)).alloc (.cells #[.slice (some ⟨w.heap.size, 0, none⟩) n n] 22) := ⟨_, rfl⟩
 have oz : OwnS W1 w.heap.size (.slice (some ⟨w.heap.size + 1, 0, none⟩) 1 1) [zeros n] := by
  rw [hW1]
  have h := OwnS.single (Own.zeros w (Nat.le_refl _) (n := n) (by omega)) (by simp)
  have e : (w.alloc (.cells (madeCells #[.int .i64 0] n) 2)).heap.size = w.heap.size + 1 := by simp
  rw [e] at h
  exact h
 have bz : Below w.heap.size w W1 := by rw [hW1]; exact ((Below.refl _ _).alloc (Nat.le_refl _) _).alloc (by simp) _
 have HW1 := Lib.hid hW1
 have w0 : wordsTo F n m 0 = [zeros n] := rfl
 have W0 := Lib.hid w0
 have OZ := Lib.hid oz
 clear w0 oz hmk
 rw [← HW1.out]
 clear hW1
 go_wp2_with fail
 refine (unhide HSZ W1 bz).mono ?_
 rintro e w2 ⟨rfl, q2⟩
 have b2 := bz.trans (q2.below _)
 have oz2 := OZ.out.below (q2.below _) (Nat.le_refl _)
 have OZ2 := Lib.hid oz2
 clear oz2 OZ
 go_wp2_with fail
 go_loopw [3, 5] (fun v iv wr => ∃ i : Nat, iv = .int .i64 i ∧ i ≤ m.length ∧ Hid (OwnS wr w.heap.size v (wordsTo F n m i)) ∧ Below w.heap.size w wr) (fun _ iv _ => m.length - (intOf iv).toNat)
 case atStart => exact ⟨0, rfl, Nat.zero_le _, by show OwnS _ _ _ _; rw [W0.out]; exact OZ2.out, b2⟩
 case round =>
  obtain ⟨i, rfl, hi, ho, hb⟩ := hrel
  rename World => wo
  have hsz := hb.size
  have c3 := (hb.cell (p := ⟨g, 3, none⟩) hglt).trans hc3
  by_cases him : i < m.length
  · obtain ⟨ai, ci, hri, hrr⟩ := unhide HCC i him
    have hmt := Mat_nth (unhide HMM) him
    have hws := wordsTo_succ F n m i
    have hwl := wordsTo_len F n m i
    have hle1 := unhide HLE i hi
    have hwe : ∀ wd ∈ wordsTo F n m i, wd.length = n ∧ ∀ x ∈ wd, 0 ≤ x ∧ x < F.n := by
     intro wd h
     rw [wordsTo, List.mem_map] at h
     obtain ⟨j, _, rfl⟩ := h
     exact ⟨encTo_len _ _ _ _ _, encTo_el ok _ _ _ _⟩
    have hwp : 0 < (wordsTo F n m i).length := by rw [hwl]; exact Nat.pow_pos (by omega)
    rw [← hwl] at hle1
    have hwn := nextTo_len F n (wordsTo F n m i) (nthL m i) (Nat.le_refl _)
    have hwf : wordsTo F n m (i + 1) = nextTo F n (wordsTo F n m i) (nthL m i) (wordsTo F n m i).length := by rw [nextTo, List.take_length, hws]
    obtain ⟨row, hrow⟩ : ∃ row, row = nthL m i := ⟨_, rfl⟩
    obtain ⟨wds, hwds⟩ : ∃ wds, wds = wordsTo F n m i := ⟨_, rfl⟩
    rw [← hrow] at hri hrr hmt hwf hwn
    rw [← hwds] at ho hwe hwp hle1 hwf hwn
    rw [hmt.1] at hri
    have hri := (hb.cell (p := ⟨gb, ob + i, none⟩) hgb).trans hri
    have HWF := Lib.hid hwf
    have HMT := hide hmt
    have HWE := hide hwe
    obtain ⟨aw, cw, rfl, rw0⟩ := ho.out.form
    obtain ⟨gw, ow, rfl, hgw, hcw⟩ := rw0.at_ hwp
    have HCW := hide hcw
    have hsc := fun (x : Nat) (hx : x < F.n) W (h : Below w.heap.size w W) => l17Scale_any g F ai ci row x W ((unhide HF).below h) ok (hrr.below h) (by omega) (by omega) hmt.2
    rw [hmt.1] at hsc
    have HSC := hide hsc
    clear hrow hwds hws hwl hwe hwf hwn hmt hcw hsc ho rw0 hrr
    go_wp2_with fail
    go_loopw [6, 7] (fun v xv wr => ∃ x : Nat, xv = .int .i64 x ∧ x ≤ F.n ∧ Hid (OwnS wr wo.heap.size v (multTo F row x)) ∧ Below wo.heap.size wo wr) (fun _ xv _ => F.n - (intOf xv).toNat)
    case atStart => exact ⟨0, rfl, Nat.zero_le _, OwnS.empty wo (Nat.le_refl _), (Below.refl _ _).alloc (Nat.le_refl _) _⟩
    case round =>
     obtain ⟨x, rfl, hx, ho2, hb2⟩ := hrel
     have hsz2 := hb2.size
     by_cases hxn : x < F.n
     · have hbx : Below w.heap.size w wr := hb.trans (hb2.mono hsz)
       have hs := fun W (h : Below wo.heap.size wo W) => unhide HSC x hxn W (hb.trans (h.mono hsz))
       have hst := multTo_succ F row x
       have hlen : (multTo F row x).length + 1 ≤ 1073741824 := by rw [multTo_len]; omega
       have hscl : (scale F x row).length = n := by rw [scale_len, (unhide HMT).1]
       obtain ⟨sr, hsr⟩ : ∃ sr, sr = scale F x row := ⟨_, rfl⟩
       rw [← hsr] at hs hst hscl
       have BX := hide (show ∀ W, Below wo.heap.size wo W → (Below wo.heap.size wo W ∧ W.cell? ⟨g, 3, none⟩ = some (.slice (some ⟨gb, ob, none⟩) m.length rc) ∧ W.cell? ⟨gb, ob + i, none⟩ = some (.slice ai n ci)) from fun W h => ⟨h, (h.cell (p := ⟨g, 3, none⟩) (by have := hb.size; show g < _; omega)).trans c3, (h.cell (p := ⟨gb, ob + i, none⟩) (by have := hb.size; show gb < _; omega)).trans hri⟩)
       have HS := hide hs
       have HST := Lib.hid hst
       have HSL := Lib.hid hscl
       clear hsr hs hst hscl
       go_upto_region 10 with fail
       refine wp_region_noPanic ?_
       refine wp_region_seq (S := (fun W => Below wo.heap.size wo W ∧ W.cell? ⟨g, 3, none⟩ = some (.slice (some ⟨gb, ob, none⟩) m.length rc) ∧ W.cell? ⟨gb, ob + i, none⟩ = some (.slice ai n ci))) [true, true, true, true, true, true, true, true, true, true, true, true, false, false, false, true] (by kernel_rfl) (by kernel_rfl) (by kernel_rfl) rfl (fun _ _ _ _ _ h => h) ?_ (fun hHeld => ?_)
       · exact (unhide BX) _ hb2.drew
       simp only [List.toList_toArray]
       refine SeqH.take (v := ?hv1) (by rfl) ?hy1 ?hr1
       case hy1 =>
        intro w hSw
        try dsimp only at hSw
        go_simp
        try (with_reducible rfl)
       try simp only [Act.put, List.setIfInBounds_toArray, List.set_cons_zero, List.set_cons_succ]
       refine SeqH.take (v := ?hv2) (by rfl) ?hy2 ?hr2
       case hy2 =>
        intro w hSw
        try dsimp only at hSw
        go_simp
        try (with_reducible rfl)
       try simp only [Act.put, List.setIfInBounds_toArray, List.set_cons_zero, List.set_cons_succ]
       refine SeqH.take (v := ?hv3) (by rfl) ?hy3 ?hr3
       case hy3 =>
        intro w hSw
        try dsimp only at hSw
        go_simp
        try (with_reducible rfl)
       try simp only [Act.put, List.setIfInBounds_toArray, List.set_cons_zero, List.set_cons_succ]
       refine SeqH.take (v := ?hv4) (by rfl) ?hy4 ?hr4
       case hy4 =>
        intro w hSw
        try dsimp only at hSw
        go_simp
        try (with_reducible rfl)
       try simp only [Act.put, List.setIfInBounds_toArray, List.set_cons_zero, List.set_cons_succ]
       refine SeqH.take (v := ?hv5) (by rfl) ?hy5 ?hr5
       case hy5 =>
        intro w hSw
        try dsimp only at hSw
        go_simp
        try (with_reducible rfl)
       try simp only [Act.put, List.setIfInBounds_toArray, List.set_cons_zero, List.set_cons_succ]
       refine SeqH.take (v := ?hv6) (by rfl) ?hy6 ?hr6
       case hy6 =>
        intro w hSw
        try dsimp only at hSw
        go_simp
        try (with_reducible rfl)
       try simp only [Act.put, List.setIfInBounds_toArray, List.set_cons_zero, List.set_cons_succ]
       refine SeqH.take (v := ?hv7) (by rfl) ?hy7 ?hr7
       case hy7 =>
        intro w hSw
        try dsimp only at hSw
        go_simp
        try (with_reducible rfl)
       try simp only [Act.put, List.setIfInBounds_toArray, List.set_cons_zero, List.set_cons_succ]
       refine SeqH.take (v := ?hv8) (by rfl) ?hy8 ?hr8
       case hy8 =>
        intro w hSw
        try dsimp only at hSw
        go_simp
        try (with_reducible rfl)
       try simp only [Act.put, List.setIfInBounds_toArray, List.set_cons_zero, List.set_cons_succ]
       refine SeqH.take (v := ?hv9) (by rfl) ?hy9 ?hr9
       case hy9 =>
        intro w hSw
        try dsimp only at hSw
        go_simp
        try (with_reducible rfl)
       try simp only [Act.put, List.setIfInBounds_toArray, List.set_cons_zero, List.set_cons_succ]
       refine SeqH.take (v := ?hv10) (by rfl) ?hy10 ?hr10
       case hy10 =>
        intro w hSw
        try dsimp only at hSw
        go_simp
        try (with_reducible rfl)
       try simp only [Act.put, List.setIfInBounds_toArray, List.set_cons_zero, List.set_cons_succ]
       refine SeqH.take (v := ?hv11) (by rfl) ?hy11 ?hr11
       case hy11 =>
        intro w hSw
        try dsimp only at hSw
        go_simp
        try (with_reducible rfl)
       try simp only [Act.put, List.setIfInBounds_toArray, List.set_cons_zero, List.set_cons_succ]
       refine SeqH.take (v := ?hv12) (by rfl) ?hy12 ?hr12
       case hy12 =>
        intro w hSw
        try dsimp only at hSw
        go_simp
        try (with_reducible rfl)
       try simp only [Act.put, List.setIfInBounds_toArray, List.set_cons_zero, List.set_cons_succ]
       refine SeqH.call (fun K hK => ?_)
       go_simp
       refine (unhide HS _ (And.left hHeld)).mono ?_
       rintro e w3 ⟨v3, rfl, o3, b3⟩
       obtain ⟨a3, c3x, rfl, _, _⟩ := o3.form
       rw [HSL.out] at o3 ⊢
       have hB3 := Below.chain (a := wo) (And.left hHeld) b3
       have hZ3 := hB3.size
       have hQ3 := b3.size
       have q3 := (ho2.out.drewN 1).toH.belw b3 (Nat.le_refl _)
       go_wp2_with fail
       refine hK.out _ _ ?_ (fun hHeld => ?_)
       · exact (unhide BX) _ hB3
       clear hK K
       try simp only [Act.put, List.setIfInBounds_toArray, List.set_cons_zero, List.set_cons_succ]
       refine SeqH.call (fun K hK => ?_)
       go_simp
       refine hK.out _ _ ?_ (fun hHeld => ?_)
       · exact (unhide BX) _ (hB3.alloc hZ3 _)
       clear hK K
       try simp only [Act.put, List.setIfInBounds_toArray, List.set_cons_zero, List.set_cons_succ]
       refine SeqH.call (fun K hK => ?_)
       refine step_append_row rfl (.tmp 39) (.tmp 52) rfl rfl (q3.belw ((Below.refl _ _).alloc (Nat.le_refl _) _) hQ3) _ rfl ((Blk.new w3 22 #[.slice a3 n c3x] rfl).cell 0) (o3.alloc _) hsz2 (alloc_le hQ3 _) hlen ?_
       intro v4 W4 o4 g4 _
       have hB4 := Below.stepS (hB3.alloc hZ3 _) g4 (q3.belw ((Below.refl _ _).alloc (Nat.le_refl _) _) hQ3).own (Nat.le_refl _) (alloc_le hZ3 _)
       refine hK.out _ _ ?_ (fun hHeld => ?_)
       · exact (unhide BX) _ hB4
       clear hK K
       try simp only [Act.put, List.setIfInBounds_toArray, List.set_cons_zero, List.set_cons_succ]
       refine SeqH.take (v := ?hv13) (by rfl) ?hy13 ?hr13
       case hy13 =>
        intro w hSw
        try dsimp only at hSw
        go_simp
        try (with_reducible rfl)
       try simp only [Act.put, List.setIfInBounds_toArray, List.set_cons_zero, List.set_cons_succ]
       refine SeqH.done (NoPanic.normal ?_)
       go_wp2
       go_roundw
       case rel => exact ⟨x + 1, by go_num, by omega, by show OwnS _ _ _ _; rw [HST.out]; exact o4, hB4⟩
       case measure => simp only [intOf]; omega
     · have hke : x = F.n := by omega
       have HE := Lib.hid hke
       clear hke
       have om := ho2.out
       rw [HE.out] at om
       obtain ⟨am, cm, rfl, rm⟩ := om.form
       have hml2 := multTo_len F row F.n
       obtain ⟨gm, omm, rfl, hgm, hcm⟩ := rm.at_ (by rw [hml2]; omega)
       rw [hml2]
       have hbx : Below w.heap.size w wr := hb.trans (hb2.mono hsz)
       have hcm2 : ∀ x, x < F.n → ∃ ax cx, wr.cell? ⟨gm, omm + x, none⟩ = some (.slice ax n cx) ∧ Rd wr ax (scale F x row) := fun x hx => by
        obtain ⟨ax, cx, h1, h2⟩ := hcm x (by rw [hml2]; exact hx)
        rw [multTo_nth F row hx] at h1 h2
        rw [scale_len, (unhide HMT).1] at h1
        exact ⟨ax, cx, h1, h2⟩
       have hcw2 : ∀ k, k < wds.length → ∃ ax cx, wr.cell? ⟨gw, ow + k, none⟩ = some (.slice ax n cx) ∧ Rd wr ax (nthL wds k) := fun k hk => by
        obtain ⟨ax, cx, h1, h2⟩ := unhide HCW k hk
        rw [(unhide HWE _ (nthL_mem hk)).1] at h1
        exact ⟨ax, cx, (hb2.cell (p := ⟨gw, ow + k, none⟩) hgw).trans h1, h2.below hb2⟩
       have hgw2 : gw < wr.heap.size := by omega
       have hPL : ∀ (k x : Nat) (_ : k < wds.length) (_ : x < F.n) (a b : Option Addr) (c d : Nat) W, Below wr.heap.size wr W → Rd W a (nthL wds k) → Rd W b (scale F x row) → Calls Try.prog 228 #[.pointer (some ⟨g, 0, none⟩), .slice a n c, .slice b n d] W fun e w' => ∃ v, e = .returned v ∧ Own w' W.heap.size v (addTo F (nthL wds k) row x n) ∧ Below W.heap.size W w' := fun k x hk hx a b c d W hB r1 r2 => by
        have hw := unhide HWE _ (nthL_mem hk)
        have h := l18Plus_any g F a b c d (nthL wds k) (scale F x row) n W ((unhide HF).below (hbx.trans (hB.mono (by have := hbx.size; omega)))) ok r1 r2 hw.1 (by rw [scale_len, (unhide HMT).1]) hn1 (by omega) hw.2 (scale_el ok _ _)
        rw [plus_scale F (by rw [(unhide HMT).1, hw.1]), hw.1] at h
        exact h
       have hNA : ∀ k, k < wds.length → nextIn F n wds row k F.n = nextTo F n wds row (k + 1) := fun k hk => nextIn_all F n wds row hk
       have HCM := hide hcm2
       have HCW2 := hide hcw2
       have HPL := hide hPL
       have HNA := hide hNA
       clear om rm hml2 hcm hcm2 hcw2 hPL hNA ho2
       rename World => wm
       have hsm := hb2.size
       go_wp2_with fail
       go_loopw [8, 9] (fun v kv wr => ∃ k : Nat, kv = .int .i64 k ∧ k ≤ wds.length ∧ Hid (OwnS wr wm.heap.size v (nextTo F n wds row k)) ∧ Below wm.heap.size wm wr) (fun _ kv _ => wds.length - (intOf kv).toNat)
       case atStart => exact ⟨0, rfl, Nat.zero_le _, OwnS.empty wm (Nat.le_refl _), (Below.refl _ _).alloc (Nat.le_refl _) _⟩
       case round =>
        obtain ⟨k, rfl, hk, ho3, hb3⟩ := hrel
        rename World => wk
        have hsz3 := hb3.size
        by_cases hkl : k < wds.length
        · have hn0 : nextIn F n wds row k 0 = nextTo F n wds row k := by rw [nextIn]; simp
          have ho4 := ho3.out
          rw [← hn0] at ho4
          have HO4 := Lib.hid ho4
          clear ho4 hn0 ho3
          obtain ⟨aw, cw2, hw1, hwr⟩ := unhide HCW2 k hkl
          have HWR := hide hwr
          clear hwr
          go_wp2_with fail
          go_loopw [8, 10] (fun v xv wr => ∃ x : Nat, xv = .int .i64 x ∧ x ≤ F.n ∧ Hid (OwnS wr wm.heap.size v (nextIn F n wds row k x)) ∧ Below wm.heap.size wm wr) (fun _ xv _ => F.n - (intOf xv).toNat)
          case atStart => exact ⟨0, rfl, Nat.zero_le _, HO4, hb3⟩
          case round =>
           obtain ⟨x, rfl, hx, ho5, hb5⟩ := hrel
           have hsz5 := hb5.size
           by_cases hxn : x < F.n
           · obtain ⟨ax, cx, hm1, hmr⟩ := unhide HCM x hxn
             have hp := unhide HPL k x hkl hxn aw ax cw2 cx
             have hst := nextIn_succ F n wds row k x
             have hlen : (nextIn F n wds row k x).length + 1 ≤ 1073741824 := by
              rw [nextIn_len F n wds row (by omega)]
              have : k * F.n ≤ 4096 * 64 := Nat.mul_le_mul (by omega) n64
              omega
             have hwl : (addTo F (nthL wds k) row x n).length = n := by rw [addTo_len, (unhide HWE _ (nthL_mem hkl)).1]
             obtain ⟨nw, hnw⟩ : ∃ nw, nw = addTo F (nthL wds k) row x n := ⟨_, rfl⟩
             rw [← hnw] at hp hst hwl
             have hp2 := fun W (h : Below wm.heap.size wm W) => hp W h ((unhide HWR).below h) (hmr.below h)
             have BX := hide (show ∀ W, Below wm.heap.size wm W → (Below wm.heap.size wm W ∧ W.cell? ⟨gw, ow + k, none⟩ = some (.slice aw n cw2) ∧ W.cell? ⟨gm, omm + x, none⟩ = some (.slice ax n cx)) from fun W h => ⟨h, (h.cell (p := ⟨gw, ow + k, none⟩) hgw2).trans hw1, (h.cell (p := ⟨gm, omm + x, none⟩) hgm).trans hm1⟩)
             have HP := hide hp2
             have HST := Lib.hid hst
             have HWL := Lib.hid hwl
             clear hp hp2 hst hnw hmr hwl
             go_upto_region 18 with fail
             refine wp_region_noPanic ?_
             refine wp_region_seq (S := (fun W => Below wm.heap.size wm W ∧ W.cell? ⟨gw, ow + k, none⟩ = some (.slice aw n cw2) ∧ W.cell? ⟨gm, omm + x, none⟩ = some (.slice ax n cx))) [true, true, true, true, true, true, true, true, true, true, true, true, false, false, false, true] (by kernel_rfl) (by kernel_rfl) (by kernel_rfl) rfl (fun _ _ _ _ _ h => h) ?_ (fun hHeld => ?_)
             · exact (unhide BX) _ hb5.drew
             simp only [List.toList_toArray]
             refine SeqH.take (v := ?hv14) (by rfl) ?hy14 ?hr14
             case hy14 =>
              intro w hSw
              try dsimp only at hSw
              go_simp
              try (with_reducible rfl)
             try simp only [Act.put, List.setIfInBounds_toArray, List.set_cons_zero, List.set_cons_succ]
             refine SeqH.take (v := ?hv15) (by rfl) ?hy15 ?hr15
             case hy15 =>
              intro w hSw
              try dsimp only at hSw
              go_simp
              try (with_reducible rfl)
             try simp only [Act.put, List.setIfInBounds_toArray, List.set_cons_zero, List.set_cons_succ]
             refine SeqH.take (v := ?hv16) (by rfl) ?hy16 ?hr16
             case hy16 =>
              intro w hSw
              try dsimp only at hSw
              go_simp
              try (with_reducible rfl)
             try simp only [Act.put, List.setIfInBounds_toArray, List.set_cons_zero, List.set_cons_succ]
             refine SeqH.take (v := ?hv17) (by rfl) ?hy17 ?hr17
             case hy17 =>
              intro w hSw
              try dsimp only at hSw
              go_simp
              try (with_reducible rfl)
             try simp only [Act.put, List.setIfInBounds_toArray, List.set_cons_zero, List.set_cons_succ]
             refine SeqH.take (v := ?hv18) (by rfl) ?hy18 ?hr18
             case hy18 =>
              intro w hSw
              try dsimp only at hSw
              go_simp
              try (with_reducible rfl)
             try simp only [Act.put, List.setIfInBounds_toArray, List.set_cons_zero, List.set_cons_succ]
             refine SeqH.take (v := ?hv19) (by rfl) ?hy19 ?hr19
             case hy19 =>
              intro w hSw
              try dsimp only at hSw
              go_simp
              try (with_reducible rfl)
             try simp only [Act.put, List.setIfInBounds_toArray, List.set_cons_zero, List.set_cons_succ]
             refine SeqH.take (v := ?hv20) (by rfl) ?hy20 ?hr20
             case hy20 =>
              intro w hSw
              try dsimp only at hSw
              go_simp
              try (with_reducible rfl)
             try simp only [Act.put, List.setIfInBounds_toArray, List.set_cons_zero, List.set_cons_succ]
             refine SeqH.take (v := ?hv21) (by rfl) ?hy21 ?hr21
             case hy21 =>
              intro w hSw
              try dsimp only at hSw
              go_simp
              try (with_reducible rfl)
             try simp only [Act.put, List.setIfInBounds_toArray, List.set_cons_zero, List.set_cons_succ]
             refine SeqH.take (v := ?hv22) (by rfl) ?hy22 ?hr22
             case hy22 =>
              intro w hSw
              try dsimp only at hSw
              go_simp
              try (with_reducible rfl)
             try simp only [Act.put, List.setIfInBounds_toArray, List.set_cons_zero, List.set_cons_succ]
             refine SeqH.take (v := ?hv23) (by rfl) ?hy23 ?hr23
             case hy23 =>
              intro w hSw
              try dsimp only at hSw
              go_simp
              try (with_reducible rfl)
             try simp only [Act.put, List.setIfInBounds_toArray, List.set_cons_zero, List.set_cons_succ]
             refine SeqH.take (v := ?hv24) (by rfl) ?hy24 ?hr24
             case hy24 =>
              intro w hSw
              try dsimp only at hSw
              go_simp
              try (with_reducible rfl)
             try simp only [Act.put, List.setIfInBounds_toArray, List.set_cons_zero, List.set_cons_succ]
             refine SeqH.take (v := ?hv25) (by rfl) ?hy25 ?hr25
             case hy25 =>
              intro w hSw
              try dsimp only at hSw
              go_simp
              try (with_reducible rfl)
             try simp only [Act.put, List.setIfInBounds_toArray, List.set_cons_zero, List.set_cons_succ]
             refine SeqH.call (fun K hK => ?_)
             go_simp
             refine (unhide HP _ (And.left hHeld)).mono ?_
             rintro e w3 ⟨v3, rfl, o3, b3⟩
             obtain ⟨a3, c3x, rfl, _, _⟩ := o3.form
             rw [HWL.out] at o3 ⊢
             have hB3 := Below.chain (a := wm) (And.left hHeld) b3
             have hZ3 := hB3.size
             have hQ3 := b3.size
             have q3 := (ho5.out.drewN 1).toH.belw b3 (Nat.le_refl _)
             go_wp2_with fail
             refine hK.out _ _ ?_ (fun hHeld => ?_)
             · exact (unhide BX) _ hB3
             clear hK K
             try simp only [Act.put, List.setIfInBounds_toArray, List.set_cons_zero, List.set_cons_succ]
             refine SeqH.call (fun K hK => ?_)
             go_simp
             refine hK.out _ _ ?_ (fun hHeld => ?_)
             · exact (unhide BX) _ (hB3.alloc hZ3 _)
             clear hK K
             try simp only [Act.put, List.setIfInBounds_toArray, List.set_cons_zero, List.set_cons_succ]
             refine SeqH.call (fun K hK => ?_)
             refine step_append_row rfl (.tmp 66) (.tmp 79) rfl rfl (q3.belw ((Below.refl _ _).alloc (Nat.le_refl _) _) hQ3) _ rfl ((Blk.new w3 22 #[.slice a3 n c3x] rfl).cell 0) (o3.alloc _) hsz5 (alloc_le hQ3 _) hlen ?_
             intro v4 W4 o4 g4 _
             have hB4 := Below.stepS (hB3.alloc hZ3 _) g4 (q3.belw ((Below.refl _ _).alloc (Nat.le_refl _) _) hQ3).own (Nat.le_refl _) (alloc_le hZ3 _)
             refine hK.out _ _ ?_ (fun hHeld => ?_)
             · exact (unhide BX) _ hB4
             clear hK K
             try simp only [Act.put, List.setIfInBounds_toArray, List.set_cons_zero, List.set_cons_succ]
             refine SeqH.take (v := ?hv26) (by rfl) ?hy26 ?hr26
             case hy26 =>
              intro w hSw
              try dsimp only at hSw
              go_simp
              try (with_reducible rfl)
             try simp only [Act.put, List.setIfInBounds_toArray, List.set_cons_zero, List.set_cons_succ]
             refine SeqH.done (NoPanic.normal ?_)
             go_wp2
             go_roundw
             case rel => exact ⟨x + 1, by go_num, by omega, by show OwnS _ _ _ _; rw [HST.out]; exact o4, hB4⟩
             case measure => simp only [intOf]; omega
           · have hke : x = F.n := by omega
             have HE := Lib.hid hke
             clear hke
             go_wp2
             go_roundw
             case rel =>
              refine ⟨k + 1, by go_num, by omega, ?_, hb5⟩
              show OwnS _ _ _ _
              have o := ho5.out
              rw [HE.out, unhide HNA k hkl] at o
              exact o
             case measure => simp only [intOf]; omega
        · have hke : k = wds.length := by omega
          have HE := Lib.hid hke
          clear hke
          go_wp2
          go_roundw
          case rel =>
           refine ⟨i + 1, by go_num, by omega, ?_, hbx.trans (hb3.mono (by have := hbx.size; omega))⟩
           show OwnS _ _ _ _
           rw [HWF.out]
           have o := ho3.out
           rw [HE.out] at o
           exact o.mono (by have := hbx.size; omega)
          case measure => simp only [intOf]; omega
  · have hke : i = m.length := by omega
    have HE := Lib.hid hke
    clear hke
    go_wp2
    go_ret
    exact ⟨_, rfl, by have o := ho.out; rw [HE.out] at o; exact o, hb⟩
end Go.Proofs.Ytgmgpcaahanmiaa
namespace Go.Proofs.Ytgmgpcaahanmiaa
open Go.RowKit
attribute [local go_sem ↓] Go.wp_at_zero Go.wp_at_succ
theorem weightOf_any (a : Option Addr) (c : Nat) (xs : List Int) (w : World) (hx : Rd w a xs) :
    Calls Try.prog 189 #[.slice a xs.length c] w fun e w' => e = .returned (.int .i64 (wt xs : Nat)) ∧ w = w' := by
 have hxl := hx.len
 go_enter Try.func189, Try.ntmps189
 go_wp2
 go_loopw [3, 8] (fun nv iv wr => ∃ (k y : Nat), iv = .int .i64 k ∧ nv = .int .i64 y ∧ k ≤ xs.length ∧ y ≤ k ∧ Hid (y = wtTo xs k) ∧ w = wr) (fun _ iv _ => xs.length - (intOf iv).toNat)
 case atStart => exact ⟨0, 0, rfl, rfl, Nat.zero_le _, Nat.le_refl _, rfl, rfl⟩
 case round =>
  obtain ⟨k, y, rfl, rfl, hk, hyk, hY, rfl⟩ := hrel
  by_cases hkl : k < xs.length
  · obtain ⟨b1, o1, rfl, _, hc⟩ := hx.at_ (by omega)
    have h1 := hc k hkl
    have hst : wtTo xs (k + 1) = if nth xs k = 0 then wtTo xs k else wtTo xs k + 1 := rfl
    obtain ⟨u, hu⟩ : ∃ u, u = nth xs k := ⟨_, rfl⟩
    rw [← hu] at h1 hst
    have HST := Lib.hid hst
    clear hc hu hst
    by_cases hn : u = 0
    · have hbn : (u != 0) = false := by rw [bne_eq_false_iff_eq]; exact hn
      have HN := Lib.hid hn
      clear hn
      go_wp2
      go_roundw
      case rel => exact ⟨k + 1, y, by go_num, rfl, by omega, by omega, by show _ = _; rw [HST.out, if_pos HN.out, hY.out], trivial⟩
      case measure => simp [intOf]; omega
    · have hbn : (u != 0) = true := by rw [bne_iff_ne]; exact hn
      have HN := hide hn
      clear hn
      go_wp2
      go_roundw
      case rel => exact ⟨k + 1, y + 1, by go_num, by go_num, by omega, by omega, by show _ = _; rw [HST.out, if_neg (unhide HN), hY.out], trivial⟩
      case measure => simp [intOf]; omega
  · have hke : k = xs.length := by omega
    have HE := Lib.hid hke
    clear hke
    go_wp2
    go_ret
    exact ⟨ret_int (by rw [hY.out, HE.out, wt]), rfl⟩
theorem l18Weight_any (a : Option Addr) (c : Nat) (xs : List Int) (w : World) (hx : Rd w a xs) :
    Calls Try.prog 203 #[.slice a xs.length c] w fun e w' => e = .returned (.int .i64 (wt xs : Nat)) ∧ w = w' := by
 have hxl := hx.len
 go_enter Try.func203, Try.ntmps203
 go_wp2
 go_loopw [3, 4] (fun nv iv wr => ∃ (k y : Nat), iv = .int .i64 k ∧ nv = .int .i64 y ∧ k ≤ xs.length ∧ y ≤ k ∧ Hid (y = wtTo xs k) ∧ w = wr) (fun _ iv _ => xs.length - (intOf iv).toNat)
 case atStart => exact ⟨0, 0, rfl, rfl, Nat.zero_le _, Nat.le_refl _, rfl, rfl⟩
 case round =>
  obtain ⟨k, y, rfl, rfl, hk, hyk, hY, rfl⟩ := hrel
  by_cases hkl : k < xs.length
  · obtain ⟨b1, o1, rfl, _, hc⟩ := hx.at_ (by omega)
    have h1 := hc k hkl
    have hst : wtTo xs (k + 1) = if nth xs k = 0 then wtTo xs k else wtTo xs k + 1 := rfl
    obtain ⟨u, hu⟩ : ∃ u, u = nth xs k := ⟨_, rfl⟩
    rw [← hu] at h1 hst
    have HST := Lib.hid hst
    clear hc hu hst
    by_cases hn : u = 0
    · have hbn : (u != 0) = false := by rw [bne_eq_false_iff_eq]; exact hn
      have HN := Lib.hid hn
      clear hn
      go_wp2
      go_roundw
      case rel => exact ⟨k + 1, y, by go_num, rfl, by omega, by omega, by show _ = _; rw [HST.out, if_pos HN.out, hY.out], trivial⟩
      case measure => simp [intOf]; omega
    · have hbn : (u != 0) = true := by rw [bne_iff_ne]; exact hn
      have HN := hide hn
      clear hn
      go_wp2
      go_roundw
      case rel => exact ⟨k + 1, y + 1, by go_num, by go_num, by omega, by omega, by show _ = _; rw [HST.out, if_neg (unhide HN), hY.out], trivial⟩
      case measure => simp [intOf]; omega
  · have hke : k = xs.length := by omega
    have HE := Lib.hid hke
    clear hke
    go_wp2
    go_ret
    exact ⟨ret_int (by rw [hY.out, HE.out, wt]), rfl⟩
theorem lengthOf_any (p d : Int) (a : Option Addr) (k c : Nat) (ra : Option Addr) (rc : Nat) (m : List (List Int)) (w : World) (hm : RdS w ra m) (h0 : 0 < m.length) :
    Calls Try.prog 108 #[.agg #[.int .i64 p, .int .i64 d, .slice a k c, .slice ra m.length rc]] w fun e w' => e = .returned (.int .i64 ((nthL m 0).length : Nat)) ∧ Below w.heap.size w w' := by
 obtain ⟨gb, ob, rfl, hgb, hcc⟩ := hm.at_ h0
 obtain ⟨ai, ci, h1, _⟩ := hcc 0 h0
 rw [Nat.add_zero] at h1
 obtain ⟨N, hN⟩ : ∃ N, N = (nthL m 0).length := ⟨_, rfl⟩
 rw [← hN] at h1 ⊢
 obtain ⟨W0, hHW⟩ : ∃ z, z = w.alloc (.cells #[.int .i64 p, .int .i64 d, .slice a k c, .slice (some ⟨gb, ob, none⟩) m.length rc] 37) := ⟨_, rfl⟩
 have b0 : Below w.heap.size w W0 := by rw [hHW]; exact (Below.refl _ _).alloc (Nat.le_refl _) _
 have k0 : Blk W0 w.heap.size 37 #[.int .i64 p, .int .i64 d, .slice a k c, .slice (some ⟨gb, ob, none⟩) m.length rc] := by rw [hHW]; exact Blk.new _ _ _ rfl
 have h1 := (b0.cell (p := ⟨gb, ob, none⟩) hgb).trans h1
 have f3 := k0.cell 3
 have HW := Lib.hid hHW
 clear hHW hN hcc hm
 go_enter Try.func108, Try.ntmps108
 go_upto_region 1 with fail
 rw [← HW.out]
 go_wp2_with fail
 refine (size_any _ _ _ _).mono ?_
 rintro e w1 ⟨rfl, rfl⟩
 go_wp2
 go_ret
 exact ⟨rfl, b0⟩
def wts (F : FD) (n : Nat) (m : List (List Int)) : List Int := cntW (wordsTo F n m m.length) n (wordsTo F n m m.length).length
theorem wordsTo_el {F : FD} (ok : F.Ok) (n : Nat) (m : List (List Int)) {k : Nat} (hk : k < (wordsTo F n m m.length).length) : (nthL (wordsTo F n m m.length) k).length = n ∧ wt (nthL (wordsTo F n m m.length) k) ≤ n ∧ ∀ x ∈ nthL (wordsTo F n m m.length) k, 0 ≤ x ∧ x < F.n := by
 rw [wordsTo_len] at hk
 rw [wordsTo_nth F n m hk]
 have h1 := encTo_len F n m (hig k F.n m.length) m.length
 have h2 := wtTo_le (encTo F n m (hig k F.n m.length) m.length) (encTo F n m (hig k F.n m.length) m.length).length
 refine ⟨h1, ?_, encTo_el ok _ _ _ _⟩
 rw [wt]
 omega
theorem weightsOf_any (F : FD) (ap : Option Addr) (cp : Nat) (ra : Option Addr) (rc : Nat) (m : List (List Int)) (n : Nat) (w : World) (hR : Rd w ap F.poly) (hm : RdS w ra m) (hC : GC F n m) :
    Calls Try.prog 116 #[.agg #[.int .i64 F.p, .int .i64 F.k, .slice ap F.poly.length cp, .slice ra m.length rc]] w fun e w' => ∃ v, e = .returned v ∧ Own w' w.heap.size v (wts F n m) ∧ Below w.heap.size w w' := by
 have hm1 := hC.m1
 have hn32 := hC.n32
 have ok := hC.good.ok
 obtain ⟨_, hQ⟩ := hC.cap_eq
 rw [← wordsTo_len F n m m.length] at hQ
 obtain ⟨W0, hHW⟩ : ∃ z, z = w.alloc (.cells #[.int .i64 F.p, .int .i64 F.k, .slice ap F.poly.length cp, .slice ra m.length rc] 37) := ⟨_, rfl⟩
 have b0 : Below w.heap.size w W0 := by rw [hHW]; exact (Below.refl _ _).alloc (Nat.le_refl _) _
 have k0 : Blk W0 w.heap.size 37 #[.int .i64 F.p, .int .i64 F.k, .slice ap F.poly.length cp, .slice ra m.length rc] := by rw [hHW]; exact Blk.new _ _ _ rfl
 have sk0 : w.heap.size < W0.heap.size := k0.lt
 have HW := Lib.hid hHW
 clear hHW
 have hL := lengthOf_any F.p F.k ap F.poly.length cp ra rc m W0 (hm.below b0) hm1
 rw [hC.hn] at hL
 have hWO := fun W (h : Below w.heap.size w W) => wordsOf_any F ap cp ra rc m n W (hR.below h) (hm.below h) hC
 have hel := fun k hk => wordsTo_el ok n m (k := k) hk
 have hwt : wts F n m = cntW (wordsTo F n m m.length) n (wordsTo F n m m.length).length := rfl
 obtain ⟨wds, hwds⟩ : ∃ wds, wds = wordsTo F n m m.length := ⟨_, rfl⟩
 rw [← hwds] at hWO hel hwt hQ
 have hmk := fun W => run_make_row' (P := Try.prog) 22 2 (.int .i64 0) 8 Try.underlying22 Try.info_i64 rfl .i64 .i64 (n + 1) (by omega) (by omega) W
 have hcast : ((n + 1 : Nat) : Int) = (n : Int) + 1 := by omega
 have HL := hide hL
 have HWO := hide hWO
 have HEL := hide hel
 have HWT := Lib.hid hwt
 clear hL hWO hel hwt hwds hm hR
 have f0 := k0.cell 0
 have f1 := k0.cell 1
 have f2 := k0.cell 2
 have f3 := k0.cell 3
 go_enter Try.func116, Try.ntmps116
 go_upto_region 1 with fail
 rw [← HW.out]
 go_wp2_with fail
 refine (unhide HL).mono ?_
 rintro e w1 ⟨rfl, b1⟩
 have k1 := k0.below b1 k0.lt
 have bw1 := b0.trans (b1.mono (Nat.le_of_lt sk0))
 clear f0 f1 f2 f3
 rw [hcast] at hmk
 go_upto_region 2 with fail
 obtain ⟨W2, hW2⟩ : ∃ z, z = w1.alloc (.cells (madeCells #[.int .i64 0] (n + 1)) 2) := ⟨_, rfl⟩
 have oz : Own W2 w1.heap.size (.slice (some ⟨w1.heap.size, 0, none⟩) (n + 1) (n + 1)) (zeros (n + 1)) := by rw [hW2]; exact Own.zeros w1 (Nat.le_refl _) (by omega)
 have bz : Below w1.heap.size w1 W2 := by rw [hW2]; exact (Below.refl _ _).alloc (Nat.le_refl _) _
 rw [← hW2]
 clear hW2
 have OZ := Lib.hid oz
 have g12 := bz.size
 have g13 : w1.heap.size < W2.heap.size := World.block_lt_of_cell? W2 _ (oz.cell (j := 0) (by rw [zeros_len]; omega))
 have c12 := bw1.trans (bz.mono bw1.size)
 have z1 := bw1.size
 have k2 := k1.below bz k1.lt
 have f0 := k2.cell 0
 have f1 := k2.cell 1
 have f2 := k2.cell 2
 have f3 := k2.cell 3
 clear oz hmk
 go_wp2_with fail
 refine (unhide HWO W2 c12).mono ?_
 rintro e w3 ⟨v3, rfl, o3, b3⟩
 obtain ⟨av, cv, rfl, _⟩ := o3.form
 have OZ3 := Lib.hid (OZ.out.below b3 (Nat.le_refl _))
 have OH := Lib.hid o3.toH
 have bw3 := c12.trans (b3.mono c12.size)
 have z3 := b3.size
 clear o3 OZ f0 f1 f2 f3
 go_wp2_with fail
 go_loopw [13] (fun iv wr => ∃ k : Nat, iv = .int .i64 k ∧ k ≤ wds.length ∧ Hid (Own wr w1.heap.size (.slice (some ⟨w1.heap.size, 0, none⟩) (n + 1) (n + 1)) (cntW wds n k)) ∧ Hid (w3.grownBy wr (some w1.heap.size))) (fun iv _ => wds.length - (intOf iv).toNat)
 case atStart => exact ⟨0, rfl, Nat.zero_le _, OZ3.out, grown_refl _ _⟩
 case round =>
  obtain ⟨k, rfl, hk, ho, hg⟩ := hrel
  by_cases hkl : k < wds.length
  · have rw0 := (OH.out.kp ((Kp.refl w3 _ _).grown hg.out (fun q hq => by injection hq; omega) (Nat.le_refl _))).rd
    obtain ⟨gw, ow, rfl, _, hcw⟩ := rw0.at_ (by omega)
    obtain ⟨aw, cw, h1, hr⟩ := hcw k hkl
    have hel := unhide HEL k hkl
    have hst : cntW wds n (k + 1) = (cntW wds n k).set (wt (nthL wds k)) (nth (cntW wds n k) (wt (nthL wds k)) + 1) := rfl
    obtain ⟨wd, hwd⟩ : ∃ wd, wd = nthL wds k := ⟨_, rfl⟩
    rw [← hwd] at h1 hr hel hst
    have hwo := weightOf_any aw cw wd wr hr
    obtain ⟨t, ht⟩ : ∃ t, t = wt wd := ⟨_, rfl⟩
    rw [← ht] at hwo hel hst
    have htn := hel.2.1
    have hcl := cntW_len wds n k
    have cc := ho.out.cell (j := t) (by omega)
    have cf := ho.out.frozen t
    have hbd := cntW_bd wds n k t
    obtain ⟨x, hx⟩ : ∃ x, x = nth (cntW wds n k) t := ⟨_, rfl⟩
    rw [← hx] at cc hbd hst
    have HWE := hide hwo
    have HST := Lib.hid hst
    have hk2 : k ≤ 4096 := by omega
    clear hwo hst hx ht hwd hel hcl hcw hr rw0
    go_wp2_with fail
    refine (unhide HWE).mono ?_
    rintro e w4 ⟨rfl, rfl⟩
    go_wp2
    go_roundw
    case rel =>
     have hs := ho.out.set t (x + 1)
     refine ⟨k + 1, by go_num, by omega, ?_, hide (grown_trans_row hg.out hs.2)⟩
     show Own _ _ _ _
     rw [HST.out]
     exact hs.1
    case measure => simp only [intOf]; omega
  · have hke : k = wds.length := by omega
    have HE := Lib.hid hke
    clear hke
    go_wp2
    go_ret
    refine ⟨_, rfl, ?_, ?_⟩
    · have o := ho.out
      rw [HE.out, ← HWT.out] at o
      exact o.mono (by omega)
    · exact bw3.grown hg.out bw3.size (fun q hq => by injection hq; omega)
theorem l18Weights_any (g : Nat) (F : FD) (ra : Option Addr) (rc : Nat) (m : List (List Int)) (n : Nat) (w : World) (hF : PF w g F) (hc3 : w.cell? ⟨g, 3, none⟩ = some (.slice ra m.length rc)) (hm : RdS w ra m) (hC : GC F n m) :
    Calls Try.prog 132 #[.pointer (some ⟨g, 0, none⟩)] w fun e w' => ∃ v, e = .returned v ∧ Own w' w.heap.size v (wts F n m) ∧ Below w.heap.size w w' := by
 have hm1 := hC.m1
 have hn32 := hC.n32
 have hml := hm.len
 have ok := hC.good.ok
 obtain ⟨_, hQ⟩ := hC.cap_eq
 rw [← wordsTo_len F n m m.length] at hQ
 have hglt : g < w.heap.size := World.block_lt_of_cell? w _ hc3
 obtain ⟨gb, ob, rfl, hgb, hcc⟩ := hm.at_ hm1
 obtain ⟨ai0, ci0, h00, _⟩ := hcc 0 hm1
 rw [Nat.add_zero, hC.hn] at h00
 have hWO := fun W (h : Below w.heap.size w W) => l18Words_any g F (some ⟨gb, ob, none⟩) rc m n W (hF.below h) ((h.cell (p := ⟨g, 3, none⟩) hglt).trans hc3) (hm.below h) hC
 have hel := fun k hk => wordsTo_el ok n m (k := k) hk
 have hwt : wts F n m = cntW (wordsTo F n m m.length) n (wordsTo F n m m.length).length := rfl
 obtain ⟨wds, hwds⟩ : ∃ wds, wds = wordsTo F n m m.length := ⟨_, rfl⟩
 rw [← hwds] at hWO hel hwt hQ
 have hmk := fun W => run_make_row' (P := Try.prog) 22 2 (.int .i64 0) 8 Try.underlying22 Try.info_i64 rfl .i64 .i64 (n + 1) (by omega) (by omega) W
 have hcast : ((n + 1 : Nat) : Int) = (n : Int) + 1 := by omega
 rw [hcast] at hmk
 have HWO := hide hWO
 have HEL := hide hel
 have HWT := Lib.hid hwt
 clear hWO hel hwt hwds hm hcc hF
 go_enter Try.func132, Try.ntmps132
 go_upto_region 2 with fail
 obtain ⟨W2, hW2⟩ : ∃ z, z = w.alloc (.cells (madeCells #[.int .i64 0] (n + 1)) 2) := ⟨_, rfl⟩
 have oz : Own W2 w.heap.size (.slice (some ⟨w.heap.size, 0, none⟩) (n + 1) (n + 1)) (zeros (n + 1)) := by rw [hW2]; exact Own.zeros w (Nat.le_refl _) (by omega)
 have bz : Below w.heap.size w W2 := by rw [hW2]; exact (Below.refl _ _).alloc (Nat.le_refl _) _
 rw [← hW2]
 clear hW2
 have OZ := Lib.hid oz
 have g12 := bz.size
 have g13 : w.heap.size < W2.heap.size := World.block_lt_of_cell? W2 _ (oz.cell (j := 0) (by rw [zeros_len]; omega))
 clear oz hmk
 go_wp2_with fail
 refine (unhide HWO W2 bz).mono ?_
 rintro e w3 ⟨v3, rfl, o3, b3⟩
 obtain ⟨av, cv, rfl, _⟩ := o3.form
 have OZ3 := Lib.hid (OZ.out.below b3 (Nat.le_refl _))
 have OH := Lib.hid o3.toH
 have bw3 := bz.trans (b3.mono bz.size)
 have z3 := b3.size
 clear o3 OZ
 go_wp2_with fail
 go_loopw [5] (fun iv wr => ∃ k : Nat, iv = .int .i64 k ∧ k ≤ wds.length ∧ Hid (Own wr w.heap.size (.slice (some ⟨w.heap.size, 0, none⟩) (n + 1) (n + 1)) (cntW wds n k)) ∧ Hid (w3.grownBy wr (some w.heap.size))) (fun iv _ => wds.length - (intOf iv).toNat)
 case atStart => exact ⟨0, rfl, Nat.zero_le _, OZ3.out, grown_refl _ _⟩
 case round =>
  obtain ⟨k, rfl, hk, ho, hg⟩ := hrel
  by_cases hkl : k < wds.length
  · have rw0 := (OH.out.kp ((Kp.refl w3 _ _).grown hg.out (fun q hq => by injection hq; omega) (Nat.le_refl _))).rd
    obtain ⟨gw, ow, rfl, _, hcw⟩ := rw0.at_ (by omega)
    obtain ⟨aw, cw, h1, hr⟩ := hcw k hkl
    have hel := unhide HEL k hkl
    have hst : cntW wds n (k + 1) = (cntW wds n k).set (wt (nthL wds k)) (nth (cntW wds n k) (wt (nthL wds k)) + 1) := rfl
    obtain ⟨wd, hwd⟩ : ∃ wd, wd = nthL wds k := ⟨_, rfl⟩
    rw [← hwd] at h1 hr hel hst
    have hwo := l18Weight_any aw cw wd wr hr
    obtain ⟨t, ht⟩ : ∃ t, t = wt wd := ⟨_, rfl⟩
    rw [← ht] at hwo hel hst
    have htn := hel.2.1
    have hcl := cntW_len wds n k
    have cc := ho.out.cell (j := t) (by omega)
    have cf := ho.out.frozen t
    have hbd := cntW_bd wds n k t
    obtain ⟨x, hx⟩ : ∃ x, x = nth (cntW wds n k) t := ⟨_, rfl⟩
    rw [← hx] at cc hbd hst
    have HWE := hide hwo
    have HST := Lib.hid hst
    have hk2 : k ≤ 4096 := by omega
    clear hwo hst hx ht hwd hel hcl hcw hr rw0
    go_wp2_with fail
    refine (unhide HWE).mono ?_
    rintro e w4 ⟨rfl, rfl⟩
    go_wp2
    go_roundw
    case rel =>
     have hs := ho.out.set t (x + 1)
     refine ⟨k + 1, by go_num, by omega, ?_, hide (grown_trans_row hg.out hs.2)⟩
     show Own _ _ _ _
     rw [HST.out]
     exact hs.1
    case measure => simp only [intOf]; omega
  · have hke : k = wds.length := by omega
    have HE := Lib.hid hke
    clear hke
    go_wp2
    go_ret
    refine ⟨_, rfl, ?_, ?_⟩
    · have o := ho.out
      rw [HE.out, ← HWT.out] at o
      exact o.mono (by omega)
    · exact bw3.grown hg.out bw3.size (fun q hq => by injection hq; omega)
end Go.Proofs.Ytgmgpcaahanmiaa
namespace Go.Proofs.Ytgmgpcaahanmiaa
open Go.RowKit
attribute [local go_sem ↓] Go.wp_at_zero Go.wp_at_succ
theorem codeOf_all (F : FD) (ap : Option Addr) (cp : Nat) (ra : Option Addr) (rc : Nat) (xss : List (List Int)) (n : Nat) (w : World) (hR : Rd w ap F.poly) (hG : F.Good) (hx : RdS w ra xss) (hM : F.Mat n xss) :
    Calls Try.prog 100 #[.agg #[.int .i64 F.p, .int .i64 F.k, .slice ap F.poly.length cp], .slice ra xss.length rc] w (ResC w (mkC F (form F xss n))) := by
 by_cases h0 : 0 < xss.length
 · exact codeOf_any F ap cp ra rc xss n w hR hG hx h0 hM
 · have hx0 : xss = [] := List.eq_nil_of_length_eq_zero (by omega)
   subst hx0
   have ok := hG.ok
   have HM := Lib.hid (show mkC F (form F [] n) = (0, 0, [], [], 6) by rw [form_nil]; rfl)
   obtain ⟨W0, hW0⟩ : ∃ W0, W0 = (w.alloc (.cells #[.int .i64 F.p, .int .i64 F.k, .slice ap F.poly.length cp] 34)).alloc (.cells #[.int .i64 0, .int .i64 0, .slice none 0 0, .slice none 0 0] 37) := ⟨_, rfl⟩
   have b0 : Below w.heap.size w W0 := by rw [hW0]; exact ((Below.refl _ _).alloc (Nat.le_refl _) _).alloc (by simp) _
   have kF : Blk W0 w.heap.size 34 #[.int .i64 F.p, .int .i64 F.k, .slice ap F.poly.length cp] := by rw [hW0]; exact (Blk.new _ _ _ rfl).alloc _
   have k0 : Blk W0 (w.heap.size + 1) 37 #[.int .i64 0, .int .i64 0, .slice none 0 0, .slice none 0 0] := by rw [hW0]; exact Blk.new _ _ _ (by simp)
   have s0 : w.heap.size + 1 < W0.heap.size := k0.lt
   have hT := tablesOf_any F ap cp W0 (hR.below b0) ok
   have HT := hide hT
   have HW := Lib.hid hW0
   have f0 := kF.cell 0
   have f1 := kF.cell 1
   have f2 := kF.cell 2
   clear hT hW0
   go_enter Try.func100, Try.ntmps100
   go_upto_region 1 with fail
   rw [← HW.out]
   go_wp2_with fail
   refine (unhide HT).mono ?_
   rintro e w1 ⟨tv, rfl, T1, b1⟩
   obtain ⟨aA, cA, aS, cS, aM, cM, aI, cI, rfl, _, _, _, _⟩ := T1
   have hb1 := b0.trans (b1.mono (by omega))
   have k1 := k0.below b1 k0.lt
   have z1 := b1.size
   clear f0 f1 f2
   go_wp2_with fail
   refine (reduce_nil F aA cA aS cS aM cM aI cI ra rc w1).mono ?_
   rintro e w2 ⟨v, u, dt, rfl, o2, _, b2⟩
   obtain ⟨ra2, rc2, rfl, _⟩ := o2.form
   have hb2 := hb1.trans (b2.mono (by omega))
   have k2 := k1.below b2 k1.lt
   have f0 := k2.cell 0
   have f1 := k2.cell 1
   have f2 := k2.cell 2
   have f3 := k2.cell 3
   have g0 := k2.frozen 0
   have g1 := k2.frozen 1
   have g2 := k2.frozen 2
   have g3 := k2.frozen 3
   go_wp2_with fail
   refine bodyPost_ret (results_cell_tmp_row rfl _ _ (w.heap.size + 1) 37 #[.int .i64 0, .int .i64 0, .slice none 0 0, .slice none 0 0] _ rfl (k2.b4.store _ _ _ _) Try.underlying37 rfl (by kernel_rfl)) rfl ?_
   rw [HM.out]
   exact ⟨_, _, rfl, OwnC.nil _ _, Below.set4 hb2 (by omega) _ _ _ _⟩
theorem nul_fix {F : FD} (hG : F.Good) {m : List (List Int)} {n : Nat} : form F (nul F m n) n = nul F m n := by
 have hM := nulTo_Mat hG.ok (form F m n) (red F m n).2 n n
 obtain ⟨pv, _, hE, _⟩ := form_ech hG hM
 exact (form_fix hG hE).1
def dualRes (p d : Int) (xs : List Int) (m : List (List Int)) : Int × Int × List Int × List (List Int) × Int := if okC p d xs m = true then mkC (fdR p d xs) (nul (fdR p d xs) m (nthL m 0).length) else (0, 0, [], [], 1)
theorem specDC_any (p d : Int) (a : Option Addr) (c : Nat) (xs : List Int) (ra : Option Addr) (rc : Nat) (m : List (List Int)) (w : World) (hx : Rd w a xs) (hm : RdS w ra m) : Calls Try.prog 40 #[.agg #[.int .i64 p, .int .i64 d, .slice a xs.length c, .slice ra m.length rc]] w (SpC w w.heap.size (dualRes p d xs m)) := by
 have hml := hm.len
 generalize hR : dualRes p d xs m = r
 obtain ⟨W0, hHW⟩ : ∃ z, z = (w.alloc (.cells #[.int .i64 p, .int .i64 d, .slice a xs.length c, .slice ra m.length rc] 37)).alloc (.cells #[.int .i64 0, .int .i64 0, .slice none 0 0, .slice none 0 0] 37) := ⟨_, rfl⟩
 have b0 : Below w.heap.size w W0 := by rw [hHW]; exact ((Below.refl _ _).alloc (Nat.le_refl _) _).alloc (by simp) _
 have k0 : Blk W0 w.heap.size 37 #[.int .i64 p, .int .i64 d, .slice a xs.length c, .slice ra m.length rc] := by rw [hHW]; exact (Blk.new _ _ _ rfl).alloc _
 have kr : Blk W0 (w.heap.size + 1) 37 #[.int .i64 0, .int .i64 0, .slice none 0 0, .slice none 0 0] := by rw [hHW]; exact Blk.new _ _ _ (by simp)
 have sk0 : w.heap.size + 1 < W0.heap.size := kr.lt
 have sk1 : w.heap.size ≤ W0.heap.size := by omega
 have HW := Lib.hid hHW
 clear hHW
 have hC0 : PC W0 w.heap.size p d a c xs ra rc m := ⟨⟨k0.cell 0, k0.cell 1, k0.cell 2, hx.below b0⟩, k0.cell 3, hm.below b0⟩
 have hV := l18Ok_any w.heap.size p d a c xs ra rc m W0 hC0
 cases hk : okC p d xs m with
 | false =>
  have HN := Lib.hid (show r = (0, 0, [], [], 1) by rw [← hR, dualRes, hk]; rfl)
  rw [hk] at hV
  have HV := hide hV
  clear hV hk hR hC0
  have f0 := k0.cell 0
  have f1 := k0.cell 1
  have f2 := k0.cell 2
  have f3 := k0.cell 3
  go_enter Try.func40, Try.ntmps40
  go_upto_region 1 with fail
  rw [← HW.out]
  go_wp2_with fail
  refine (unhide HV).mono ?_
  rintro e w1 ⟨rfl, b1⟩
  have k1 := k0.below b1 k0.lt
  have kr1 := kr.below b1 kr.lt
  clear f0 f1 f2 f3
  have f0 := k1.cell 0
  have f1 := k1.cell 1
  have f2 := k1.cell 2
  have f3 := k1.cell 3
  have bb1 := b0.trans (b1.mono sk1)
  have z1 := b1.size
  have r0 := kr1.cell 0
  have r1 := kr1.cell 1
  have r2 := kr1.cell 2
  have r3 := kr1.cell 3
  have s0 := kr1.frozen 0
  have s1 := kr1.frozen 1
  have s2 := kr1.frozen 2
  have s3 := kr1.frozen 3
  go_wp2
  refine bodyPost_ret (results_cell_tmp_row rfl _ _ (w.heap.size + 1) 37 #[.int .i64 0, .int .i64 0, .slice none 0 0, .slice none 0 0] _ rfl (kr1.b4.store _ _ _ _) Try.underlying37 rfl (by kernel_rfl)) rfl ?_
  rw [HN.out]
  exact ⟨_, _, rfl, Own.nil _ _, OwnS.nil _ _, Below.set4 bb1 (by omega) _ _ _ _⟩
 | true =>
  obtain ⟨F, n, rfl, rfl, rfl, hC⟩ := okC_gc hk
  have ok := hC.good.ok
  obtain ⟨n2, n64⟩ := ok.n_bd
  have hm1 := hC.m1
  have hm0 : 0 < m.length := by omega
  have hm8 := hC.m8
  have hn1 := hC.n1
  have hn32 := hC.n32
  rw [hk] at hV
  have HV := hide hV
  have hRR : r = mkC F (nul F m n) := by rw [← hR, dualRes, hk, fdR_eq, hC.hn]; rfl
  clear hV hk hR
  have hW := fun W (h : Below W0.heap.size W0 W) => l17Null_any w.heap.size F ra rc m n W (hC0.below h).1.pf hC.good (hC0.below h).2.2 hm1 hC.mat hn1 (by omega)
  obtain ⟨N, hN⟩ : ∃ N, N = nul F m n := ⟨_, rfl⟩
  rw [← hN] at hW hRR
  have hPF : PF W0 w.heap.size F := hC0.1.pf
  have HWW := hide hW
  have HRR := Lib.hid hRR
  clear hW hC0 hC hN hRR
  have f0 := k0.cell 0
  have f1 := k0.cell 1
  have f2 := k0.cell 2
  have f3 := k0.cell 3
  go_enter Try.func40, Try.ntmps40
  go_upto_region 1 with fail
  rw [← HW.out]
  go_wp2_with fail
  refine (unhide HV).mono ?_
  rintro e w1 ⟨rfl, b1⟩
  have k1 := k0.below b1 k0.lt
  have kr1 := kr.below b1 kr.lt
  clear f0 f1 f2 f3
  have f0 := k1.cell 0
  have f1 := k1.cell 1
  have f2 := k1.cell 2
  have f3 := k1.cell 3
  have bb1 := b0.trans (b1.mono sk1)
  have z1 := b1.size
  go_wp2_with fail
  refine (unhide HWW w1 b1).mono ?_
  rintro e w2 ⟨v, rfl, o2, b2⟩
  obtain ⟨ax, cx, rfl, _⟩ := o2.form
  have c2 := Below.chain b1 b2
  have hMk := l18Make_any w1.heap.size w.heap.size F ax cx N w2 (hPF.below c2) ok o2 b2.size
  have HMK := hide hMk
  clear hMk
  go_wp2_with fail
  refine (unhide HMK).mono ?_
  rintro e w4 ⟨v4, u4, rfl, o4, q4, b4⟩
  have c4 := Below.chain c2 b4
  have bb4 := b0.trans (c4.mono sk1)
  have kr4 := kr.below c4 kr.lt
  have p3 : w.heap.size + 1 < w1.heap.size := by omega
  obtain ⟨qq, hqq⟩ : ∃ qq, qq = mkC F N := ⟨_, rfl⟩
  rw [← hqq] at o4 q4 ⊢
  obtain ⟨rp, rd, rx, ry, rz⟩ := qq
  simp only [] at o4 q4 ⊢
  obtain ⟨a4, c4, rfl, _, _⟩ := o4.form
  obtain ⟨p4, d4, rfl, _⟩ := q4.form
  have HQ := Lib.hid hqq
  clear hqq
  have r0 := kr4.cell 0
  have r1 := kr4.cell 1
  have r2 := kr4.cell 2
  have r3 := kr4.cell 3
  have s0 := kr4.frozen 0
  have s1 := kr4.frozen 1
  have s2 := kr4.frozen 2
  have s3 := kr4.frozen 3
  go_wp2
  refine bodyPost_ret (results_cell_tmp_row rfl _ _ (w.heap.size + 1) 37 #[.int .i64 rp, .int .i64 rd, .slice a4 rx.length c4, .slice p4 ry.length d4] _ rfl (kr4.b4.store _ _ _ _) Try.underlying37 rfl (by kernel_rfl)) rfl ?_
  rw [HRR.out, ← HQ.out]
  refine ⟨_, _, rfl, ?_, ?_, Below.set4 bb4 (by omega) _ _ _ _⟩
  · exact ((((o4.storeBelow p3 _).storeBelow p3 _).storeBelow p3 _).storeBelow p3 _).mono (by omega)
  · exact ((((q4.storeBelow p3 _).storeBelow p3 _).storeBelow p3 _).storeBelow p3 _).mono (by omega)
theorem implDC_any (p d : Int) (a : Option Addr) (c : Nat) (xs : List Int) (ra : Option Addr) (rc : Nat) (m : List (List Int)) (w : World) (hx : Rd w a xs) (hm : RdS w ra m) (ed : I64 d) : Calls Try.prog 36 #[.agg #[.int .i64 p, .int .i64 d, .slice a xs.length c, .slice ra m.length rc]] w (ResC w (dualRes p d xs m)) := by
 have hml := hm.len
 generalize hR : dualRes p d xs m = r
 obtain ⟨W0, hHW⟩ : ∃ z, z = (w.alloc (.cells #[.int .i64 p, .int .i64 d, .slice a xs.length c, .slice ra m.length rc] 37)).alloc (.cells #[.int .i64 0, .int .i64 0, .slice none 0 0, .slice none 0 0] 37) := ⟨_, rfl⟩
 have b0 : Below w.heap.size w W0 := by rw [hHW]; exact ((Below.refl _ _).alloc (Nat.le_refl _) _).alloc (by simp) _
 have k0 : Blk W0 w.heap.size 37 #[.int .i64 p, .int .i64 d, .slice a xs.length c, .slice ra m.length rc] := by rw [hHW]; exact (Blk.new _ _ _ rfl).alloc _
 have kr : Blk W0 (w.heap.size + 1) 37 #[.int .i64 0, .int .i64 0, .slice none 0 0, .slice none 0 0] := by rw [hHW]; exact Blk.new _ _ _ (by simp)
 have sk0 : w.heap.size + 1 < W0.heap.size := kr.lt
 have sk1 : w.heap.size ≤ W0.heap.size := by omega
 have HW := Lib.hid hHW
 clear hHW
 have hV := implVC_any p d a c xs ra rc m W0 (hx.below b0) (hm.below b0) ed
 cases hk : okC p d xs m with
 | false =>
  have HN := Lib.hid (show r = (0, 0, [], [], 1) by rw [← hR, dualRes, hk]; rfl)
  rw [hk] at hV
  have HV := hide hV
  clear hV hk hR
  have f0 := k0.cell 0
  have f1 := k0.cell 1
  have f2 := k0.cell 2
  have f3 := k0.cell 3
  go_enter Try.func36, Try.ntmps36
  go_upto_region 1 with fail
  rw [← HW.out]
  go_wp2_with fail
  refine (unhide HV).mono ?_
  rintro e w1 ⟨rfl, b1⟩
  have k1 := k0.below b1 k0.lt
  have kr1 := kr.below b1 kr.lt
  clear f0 f1 f2 f3
  have f0 := k1.cell 0
  have f1 := k1.cell 1
  have f2 := k1.cell 2
  have f3 := k1.cell 3
  have bb1 := b0.trans (b1.mono sk1)
  have z1 := b1.size
  have r0 := kr1.cell 0
  have r1 := kr1.cell 1
  have r2 := kr1.cell 2
  have r3 := kr1.cell 3
  have s0 := kr1.frozen 0
  have s1 := kr1.frozen 1
  have s2 := kr1.frozen 2
  have s3 := kr1.frozen 3
  go_wp2
  refine bodyPost_ret (results_cell_tmp_row rfl _ _ (w.heap.size + 1) 37 #[.int .i64 0, .int .i64 0, .slice none 0 0, .slice none 0 0] _ rfl (kr1.b4.store _ _ _ _) Try.underlying37 rfl (by kernel_rfl)) rfl ?_
  rw [HN.out]
  exact ⟨_, _, rfl, OwnC.nil _ _, Below.set4 bb1 (by omega) _ _ _ _⟩
 | true =>
  obtain ⟨F, n, rfl, rfl, rfl, hC⟩ := okC_gc hk
  have ok := hC.good.ok
  obtain ⟨n2, n64⟩ := ok.n_bd
  have hm1 := hC.m1
  have hm0 : 0 < m.length := by omega
  have hm8 := hC.m8
  have hn1 := hC.n1
  have hn32 := hC.n32
  rw [hk] at hV
  have HV := hide hV
  have hRR : r = mkC F (nul F m n) := by rw [← hR, dualRes, hk, fdR_eq, hC.hn]; rfl
  clear hV hk hR
  obtain ⟨gb, ob, rfl, hgb, hcc⟩ := hm.at_ hm1
  obtain ⟨ai, ci, hr0, _⟩ := hcc 0 hm1
  rw [Nat.add_zero, hC.hn] at hr0
  have hT := fun W (h : Below W0.heap.size W0 W) => tablesOf_any F a c W ((hx.below b0).below h) ok
  have hW := fun tv W (h : Below W0.heap.size W0 W) hT => nullSpace_any F tv (some ⟨gb, ob, none⟩) rc m n W hT hC.good ((hm.below b0).below h) hm1 hC.mat hn1 (by omega)
  have hNM := nul_Mat ok m n
  have hNF := nul_fix hC.good (m := m) (n := n)
  obtain ⟨N, hN⟩ : ∃ N, N = nul F m n := ⟨_, rfl⟩
  rw [← hN] at hW hRR hNM hNF
  have hCO := fun b d W (h : Below W0.heap.size W0 W) (hy : RdS W b N) => codeOf_all F a c b d N n W ((hx.below b0).below h) hC.good hy hNM
  rw [hNF] at hCO
  have HT := hide hT
  have HWW := hide hW
  have HCO := hide hCO
  have HRR := Lib.hid hRR
  have BX := hide (show ∀ W, Below W0.heap.size W0 W → (Below w.heap.size w W ∧ W.cell? ⟨w.heap.size, 0, none⟩ = some (.int .i64 F.p) ∧ W.cell? ⟨w.heap.size, 1, none⟩ = some (.int .i64 F.k) ∧ W.cell? ⟨w.heap.size, 2, none⟩ = some (.slice a F.poly.length c) ∧ W.cell? ⟨w.heap.size, 3, none⟩ = some (.slice (some ⟨gb, ob, none⟩) m.length rc) ∧ W.cell? ⟨gb, ob, none⟩ = some (.slice ai n ci)) from fun W h => ⟨b0.trans (h.mono sk1), (k0.below h k0.lt).cell 0, (k0.below h k0.lt).cell 1, (k0.below h k0.lt).cell 2, (k0.below h k0.lt).cell 3, ((b0.trans (h.mono sk1)).cell (p := ⟨gb, ob, none⟩) hgb).trans hr0⟩)
  have BZ := hide (show ∀ x y z u W, Below W0.heap.size W0 W → (Below w.heap.size w ((((W.setCell ⟨w.heap.size + 1, 0, none⟩ x).setCell ⟨w.heap.size + 1, 1, none⟩ y).setCell ⟨w.heap.size + 1, 2, none⟩ z).setCell ⟨w.heap.size + 1, 3, none⟩ u) ∧ ((((W.setCell ⟨w.heap.size + 1, 0, none⟩ x).setCell ⟨w.heap.size + 1, 1, none⟩ y).setCell ⟨w.heap.size + 1, 2, none⟩ z).setCell ⟨w.heap.size + 1, 3, none⟩ u).cell? ⟨w.heap.size, 0, none⟩ = some (.int .i64 F.p) ∧ ((((W.setCell ⟨w.heap.size + 1, 0, none⟩ x).setCell ⟨w.heap.size + 1, 1, none⟩ y).setCell ⟨w.heap.size + 1, 2, none⟩ z).setCell ⟨w.heap.size + 1, 3, none⟩ u).cell? ⟨w.heap.size, 1, none⟩ = some (.int .i64 F.k) ∧ ((((W.setCell ⟨w.heap.size + 1, 0, none⟩ x).setCell ⟨w.heap.size + 1, 1, none⟩ y).setCell ⟨w.heap.size + 1, 2, none⟩ z).setCell ⟨w.heap.size + 1, 3, none⟩ u).cell? ⟨w.heap.size, 2, none⟩ = some (.slice a F.poly.length c) ∧ ((((W.setCell ⟨w.heap.size + 1, 0, none⟩ x).setCell ⟨w.heap.size + 1, 1, none⟩ y).setCell ⟨w.heap.size + 1, 2, none⟩ z).setCell ⟨w.heap.size + 1, 3, none⟩ u).cell? ⟨w.heap.size, 3, none⟩ = some (.slice (some ⟨gb, ob, none⟩) m.length rc) ∧ ((((W.setCell ⟨w.heap.size + 1, 0, none⟩ x).setCell ⟨w.heap.size + 1, 1, none⟩ y).setCell ⟨w.heap.size + 1, 2, none⟩ z).setCell ⟨w.heap.size + 1, 3, none⟩ u).cell? ⟨gb, ob, none⟩ = some (.slice ai n ci)) from fun x y z u W h => by
   have k := Below.set4 (Below.refl (w.heap.size + 1) W) (Nat.le_refl _) x y z u
   obtain ⟨q, q0, q1, q2, q3, q4⟩ := unhide BX W h
   exact ⟨Below.set4 q (by omega) x y z u, (k.cell (p := ⟨w.heap.size, 0, none⟩) (by show w.heap.size < _; omega)).trans q0, (k.cell (p := ⟨w.heap.size, 1, none⟩) (by show w.heap.size < _; omega)).trans q1, (k.cell (p := ⟨w.heap.size, 2, none⟩) (by show w.heap.size < _; omega)).trans q2, (k.cell (p := ⟨w.heap.size, 3, none⟩) (by show w.heap.size < _; omega)).trans q3, (k.cell (p := ⟨gb, ob, none⟩) (by show gb < _; omega)).trans q4⟩)
  clear hT hW hC hN hcc hNM hNF hCO hRR
  have f0 := k0.cell 0
  have f1 := k0.cell 1
  have f2 := k0.cell 2
  have f3 := k0.cell 3
  go_enter Try.func36, Try.ntmps36
  go_upto_region 1 with fail
  rw [← HW.out]
  go_wp2_with fail
  refine (unhide HV).mono ?_
  rintro e w1 ⟨rfl, b1⟩
  have k1 := k0.below b1 k0.lt
  have kr1 := kr.below b1 kr.lt
  clear f0 f1 f2 f3
  have f0 := k1.cell 0
  have f1 := k1.cell 1
  have f2 := k1.cell 2
  have f3 := k1.cell 3
  have bb1 := b0.trans (b1.mono sk1)
  have z1 := b1.size
  go_upto_region 3 with fail
  refine wp_region_noPanic ?_
  refine wp_region_ord (S := (fun W => Below w.heap.size w W ∧ W.cell? ⟨w.heap.size, 0, none⟩ = some (.int .i64 F.p) ∧ W.cell? ⟨w.heap.size, 1, none⟩ = some (.int .i64 F.k) ∧ W.cell? ⟨w.heap.size, 2, none⟩ = some (.slice a F.poly.length c) ∧ W.cell? ⟨w.heap.size, 3, none⟩ = some (.slice (some ⟨gb, ob, none⟩) m.length rc) ∧ W.cell? ⟨gb, ob, none⟩ = some (.slice ai n ci))) [(true, 0), (true, 1), (true, 2), (true, 3), (true, 5), (true, 6), (true, 7), (true, 8), (true, 9), (true, 10), (true, 11), (false, 4), (false, 12), (false, 13), (true, 14), (true, 15), (false, 16), (true, 17)] (by kernel_rfl) (by kernel_rfl) (by kernel_rfl) rfl (fun _ _ _ _ _ h => h) ?_ (fun hHeld => ?_)
  · exact (unhide BX) _ b1.drew
  refine SeqO.take (by rfl) (v := ?hv1) (by rfl) ?hy1 ?hr1
  case hy1 =>
   intro w hSw
   try dsimp only at hSw
   go_simp
   try (with_reducible rfl)
  try simp only [Act.put, List.setIfInBounds_toArray, List.set_cons_zero, List.set_cons_succ]
  refine SeqO.take (by rfl) (v := ?hv2) (by rfl) ?hy2 ?hr2
  case hy2 =>
   intro w hSw
   try dsimp only at hSw
   go_simp
   try (with_reducible rfl)
  try simp only [Act.put, List.setIfInBounds_toArray, List.set_cons_zero, List.set_cons_succ]
  refine SeqO.take (by rfl) (v := ?hv3) (by rfl) ?hy3 ?hr3
  case hy3 =>
   intro w hSw
   try dsimp only at hSw
   go_simp
   try (with_reducible rfl)
  try simp only [Act.put, List.setIfInBounds_toArray, List.set_cons_zero, List.set_cons_succ]
  refine SeqO.take (by rfl) (v := ?hv4) (by rfl) ?hy4 ?hr4
  case hy4 =>
   intro w hSw
   try dsimp only at hSw
   go_simp
   try (with_reducible rfl)
  try simp only [Act.put, List.setIfInBounds_toArray, List.set_cons_zero, List.set_cons_succ]
  refine SeqO.take (by rfl) (v := ?hv5) (by rfl) ?hy5 ?hr5
  case hy5 =>
   intro w hSw
   try dsimp only at hSw
   go_simp
   try (with_reducible rfl)
  try simp only [Act.put, List.setIfInBounds_toArray, List.set_cons_zero, List.set_cons_succ]
  refine SeqO.take (by rfl) (v := ?hv6) (by rfl) ?hy6 ?hr6
  case hy6 =>
   intro w hSw
   try dsimp only at hSw
   go_simp
   try (with_reducible rfl)
  try simp only [Act.put, List.setIfInBounds_toArray, List.set_cons_zero, List.set_cons_succ]
  refine SeqO.take (by rfl) (v := ?hv7) (by rfl) ?hy7 ?hr7
  case hy7 =>
   intro w hSw
   try dsimp only at hSw
   go_simp
   try (with_reducible rfl)
  try simp only [Act.put, List.setIfInBounds_toArray, List.set_cons_zero, List.set_cons_succ]
  refine SeqO.take (by rfl) (v := ?hv8) (by rfl) ?hy8 ?hr8
  case hy8 =>
   intro w hSw
   try dsimp only at hSw
   go_simp
   try (with_reducible rfl)
  try simp only [Act.put, List.setIfInBounds_toArray, List.set_cons_zero, List.set_cons_succ]
  refine SeqO.take (by rfl) (v := ?hv9) (by rfl) ?hy9 ?hr9
  case hy9 =>
   intro w hSw
   try dsimp only at hSw
   go_simp
   try (with_reducible rfl)
  try simp only [Act.put, List.setIfInBounds_toArray, List.set_cons_zero, List.set_cons_succ]
  refine SeqO.take (by rfl) (v := ?hv10) (by rfl) ?hy10 ?hr10
  case hy10 =>
   intro w hSw
   try dsimp only at hSw
   go_simp
   try (with_reducible rfl)
  try simp only [Act.put, List.setIfInBounds_toArray, List.set_cons_zero, List.set_cons_succ]
  refine SeqO.take (by rfl) (v := ?hv11) (by rfl) ?hy11 ?hr11
  case hy11 =>
   intro w hSw
   try dsimp only at hSw
   go_simp
   try (with_reducible rfl)
  try simp only [Act.put, List.setIfInBounds_toArray, List.set_cons_zero, List.set_cons_succ]
  refine SeqO.call (by rfl) (fun K hK => ?_)
  go_simp
  refine (unhide HT _ b1.drew).mono ?_
  rintro e w2 ⟨tv, rfl, t2, b2⟩
  have hB2 := Below.chain b1.drew b2
  go_wp2_with fail
  refine hK.out _ _ ?_ (fun hHeld => ?_)
  · exact (unhide BX) _ hB2
  clear hK K
  try simp only [Act.put, List.setIfInBounds_toArray, List.set_cons_zero, List.set_cons_succ]
  refine SeqO.call (by rfl) (fun K hK => ?_)
  go_simp
  refine (unhide HWW tv _ hB2 t2).mono ?_
  rintro e w3 ⟨u, rfl, o3, b3⟩
  obtain ⟨ax, cx, rfl, r3⟩ := o3.form
  have hB3 := Below.chain hB2 b3
  have z3 := hB3.size
  have p3 : w.heap.size + 1 < w3.heap.size := by omega
  go_wp2_with fail
  refine hK.out _ _ ?_ (fun hHeld => ?_)
  · exact (unhide BX) _ hB3
  clear hK K
  try simp only [Act.put, List.setIfInBounds_toArray, List.set_cons_zero, List.set_cons_succ]
  refine SeqO.call (by rfl) (fun K hK => ?_)
  go_simp
  refine (unhide HCO ax cx _ hB3 r3).mono ?_
  rintro e w4 ⟨v4, u4, rfl, o4, b4⟩
  have hB4 := Below.chain hB3 b4
  obtain ⟨qq, hqq⟩ : ∃ qq, qq = mkC F N := ⟨_, rfl⟩
  rw [← hqq] at o4 ⊢
  obtain ⟨rp, rd, rx, ry, rz⟩ := qq
  simp only [] at o4 ⊢
  obtain ⟨a4, c4, p4, d4, rfl, rfl, _, _⟩ := o4.form
  have HQ := Lib.hid hqq
  clear hqq
  have kr4 := kr.below hB4 kr.lt
  have bb4 := b0.trans (hB4.mono sk1)
  have r0 := kr4.cell 0
  have r1 := kr4.cell 1
  have r2 := kr4.cell 2
  have r3 := kr4.cell 3
  have s0 := kr4.frozen 0
  have s1 := kr4.frozen 1
  have s2 := kr4.frozen 2
  have s3 := kr4.frozen 3
  go_wp2_with fail
  refine hK.out _ _ ?_ (fun hHeld => ?_)
  · exact (unhide BX) _ hB4
  clear hK K
  try simp only [Act.put, List.setIfInBounds_toArray, List.set_cons_zero, List.set_cons_succ]
  refine SeqO.take (by rfl) (v := ?hv12) (by rfl) ?hy12 ?hr12
  case hy12 =>
   intro w hSw
   try dsimp only at hSw
   go_simp
   try (with_reducible rfl)
  try simp only [Act.put, List.setIfInBounds_toArray, List.set_cons_zero, List.set_cons_succ]
  refine SeqO.take (by rfl) (v := ?hv13) (by rfl) ?hy13 ?hr13
  case hy13 =>
   intro w hSw
   try dsimp only at hSw
   go_simp
   try (with_reducible rfl)
  try simp only [Act.put, List.setIfInBounds_toArray, List.set_cons_zero, List.set_cons_succ]
  refine SeqO.call (by rfl) (fun K hK => ?_)
  go_simp
  refine hK.out _ _ ?_ (fun hHeld => ?_)
  · exact (unhide BZ) _ _ _ _ _ hB4
  clear hK K
  try simp only [Act.put, List.setIfInBounds_toArray, List.set_cons_zero, List.set_cons_succ]
  refine SeqO.take (by rfl) (v := ?hv14) (by rfl) ?hy14 ?hr14
  case hy14 =>
   intro w hSw
   try dsimp only at hSw
   go_simp
   try (with_reducible rfl)
  try simp only [Act.put, List.setIfInBounds_toArray, List.set_cons_zero, List.set_cons_succ]
  refine SeqO.done (NoPanic.normal ?_)
  go_wp2
  refine bodyPost_ret (results_cell_tmp_row rfl _ _ (w.heap.size + 1) 37 #[.int .i64 rp, .int .i64 rd, .slice a4 rx.length c4, .slice p4 ry.length d4] _ rfl (kr4.b4.store _ _ _ _) Try.underlying37 rfl (by kernel_rfl)) rfl ?_
  rw [HRR.out, ← HQ.out]
  refine ⟨_, _, rfl, ?_, Below.set4 bb4 (by omega) _ _ _ _⟩
  exact ((((o4.storeBelow p3 _).storeBelow p3 _).storeBelow p3 _).storeBelow p3 _).mono (by omega)
end Go.Proofs.Ytgmgpcaahanmiaa
namespace Go.Proofs.Ytgmgpcaahanmiaa
open Go.RowKit
section
variable {F : FD} {n : Nat} {m A : List (List Int)}
theorem FD.Good.okF (h : F.Good) : okF F.p F.k F.poly = true := by
 have ok := h.ok
 have hk := ok.k1
 have hk6 := ok.k6
 simp only [Go.Proofs.Ytgmgpcaahanmiaa.okF, Bool.and_eq_true, inB_true, beq_iff_eq, List.all_eq_true]
 refine ⟨⟨ok.p2, ok.p64⟩, ⟨by omega, by omega⟩, by rw [ok.len]; omega, by rw [Int.toNat_natCast]; exact ok.one, by rw [Int.toNat_natCast, h.spl], fun x hx => ?_, ok.irr⟩
 have := ok.inR x hx
 exact ⟨this.1, by omega⟩
theorem GC.okC (h : GC F n m) : okC F.p F.k F.poly m = true := by
 have hM := h.mat
 rw [Go.Proofs.Ytgmgpcaahanmiaa.okC, Bool.and_eq_true, Bool.and_eq_true, Bool.and_eq_true, decide_eq_true_eq, decide_eq_true_eq, decide_eq_true_eq, fdR_eq]
 refine ⟨?_, h.m8, h.cap, by rw [h.hn]; exact h.fix⟩
 rw [okM, Bool.and_eq_true]
 refine ⟨h.good.okF, ?_⟩
 rw [okR_true]
 refine ⟨h.m1, by have := h.m8; omega, by rw [h.hn]; exact h.n1, by rw [h.hn]; exact h.n32, fun r hr => ?_⟩
 rw [h.hn, Int.toNat_natCast, h.good.ok.n_eq]
 exact ⟨(hM r hr).1, elems_true.2 (hM r hr).2⟩
theorem mkC_gc (hG : F.Good) (hM : F.Mat n A) (n1 : 1 ≤ n) (n32 : n ≤ 32) (h : (mkC F (form F A n)).2.2.2.2 = 0) : GC F n (form F A n) ∧ mkC F (form F A n) = (F.p, (F.k : Int), F.poly, form F A n, 0) := by
 obtain ⟨pv, _, hE, _⟩ := form_ech hG hM
 rw [mkC] at h ⊢
 by_cases h0 : (form F A n).length = 0
 · rw [if_pos h0] at h; simp at h
 · rw [if_neg h0] at h ⊢
   by_cases h1 : 8 < (form F A n).length ∨ 4096 < capTo F.n 4096 (form F A n).length
   · rw [if_pos h1] at h; simp at h
   · rw [if_neg h1]
     exact ⟨⟨hG, by omega, by omega, n1, n32, (Mat_nth hE.mat (by omega)).1, hE.mat, by omega, (form_fix hG hE).1⟩, rfl⟩
theorem capTo_mono {b l : Int} (hb : 1 ≤ b) (hl : 0 ≤ l) : ∀ {i j : Nat}, i ≤ j → capTo b l j ≤ l → capTo b l i ≤ l := by
 intro i j hij h
 rcases Classical.em (capTo b l i ≤ l) with h1 | h1
 · exact h1
 · rw [capTo_stop h1 j hij] at h; exact h
theorem GC.mk_code (h : GC F n m) {n' : Nat} (hA : F.Mat n' A) (hl : A.length ≤ m.length) : (mkC F (form F A n')).2.2.2.2 = 0 ∨ mkC F (form F A n') = (0, 0, [], [], 6) := by
 have h1 : (form F A n').length ≤ m.length := by
  rw [form_len]
  have := red_piv F A n'
  omega
 have h8 := h.m8
 rw [mkC]
 by_cases h0 : (form F A n').length = 0
 · rw [if_pos h0]; exact .inr rfl
 · rw [if_neg h0, if_neg]
   · exact .inl rfl
   · have ok := h.good.ok
     have n2 := ok.n_bd
     have := capTo_mono (b := F.n) (l := 4096) (by omega) (by omega) h1 h.cap
     omega
end
end Go.Proofs.Ytgmgpcaahanmiaa
namespace Go.Proofs.Ytgmgpcaahanmiaa
open Go.RowKit
attribute [local go_sem ↓] Go.wp_at_zero Go.wp_at_succ
def ResLL (w : World) (r : List (List Int)) (e : Ending) (w' : World) : Prop := ∃ v, e = .returned v ∧ OwnS w' w.heap.size v r ∧ Below w.heap.size w w'
noncomputable def woRes (p d : Int) (xs : List Int) (m : List (List Int)) : List (List Int) := if okC p d xs m = true then wordsTo (fdR p d xs) (nthL m 0).length m m.length else []
theorem implWO_any (p d : Int) (a : Option Addr) (c : Nat) (xs : List Int) (ra : Option Addr) (rc : Nat) (m : List (List Int)) (w : World) (hx : Rd w a xs) (hm : RdS w ra m) (ed : I64 d) : Calls Try.prog 56 #[.agg #[.int .i64 p, .int .i64 d, .slice a xs.length c, .slice ra m.length rc]] w (ResLL w (woRes p d xs m)) := by
 have hml := hm.len
 generalize hR : woRes p d xs m = r
 obtain ⟨W0, hHW⟩ : ∃ z, z = w.alloc (.cells #[.int .i64 p, .int .i64 d, .slice a xs.length c, .slice ra m.length rc] 37) := ⟨_, rfl⟩
 have b0 : Below w.heap.size w W0 := by rw [hHW]; exact (Below.refl _ _).alloc (Nat.le_refl _) _
 have k0 : Blk W0 w.heap.size 37 #[.int .i64 p, .int .i64 d, .slice a xs.length c, .slice ra m.length rc] := by rw [hHW]; exact Blk.new _ _ _ rfl
 have sk0 : w.heap.size < W0.heap.size := k0.lt
 have HW := Lib.hid hHW
 clear hHW
 have hV := implVC_any p d a c xs ra rc m W0 (hx.below b0) (hm.below b0) ed
 cases hk : okC p d xs m with
 | false =>
  have HN := Lib.hid (show r = [] by rw [← hR, woRes, hk]; rfl)
  rw [hk] at hV
  have HV := hide hV
  clear hV hk hR
  have f0 := k0.cell 0
  have f1 := k0.cell 1
  have f2 := k0.cell 2
  have f3 := k0.cell 3
  go_enter Try.func56, Try.ntmps56
  go_upto_region 1 with fail
  rw [← HW.out]
  go_wp2_with fail
  refine (unhide HV).mono ?_
  rintro e w1 ⟨rfl, b1⟩
  have k1 := k0.below b1 k0.lt
  clear f0 f1 f2 f3
  have f0 := k1.cell 0
  have f1 := k1.cell 1
  have f2 := k1.cell 2
  have f3 := k1.cell 3
  have bb1 := b0.trans (b1.mono (Nat.le_of_lt sk0))
  go_wp2
  go_ret
  exact ⟨_, rfl, by rw [HN.out]; exact OwnS.nil _ _, bb1⟩
 | true =>
  obtain ⟨F, n, rfl, rfl, rfl, hC⟩ := okC_gc hk
  have ok := hC.good.ok
  obtain ⟨n2, n64⟩ := ok.n_bd
  have hm1 := hC.m1
  have hm0 : 0 < m.length := by omega
  have hm8 := hC.m8
  have hn1 := hC.n1
  have hn32 := hC.n32
  rw [hk] at hV
  have HV := hide hV
  have hRR : r = wordsTo F n m m.length := by rw [← hR, woRes, hk, fdR_eq, hC.hn]; rfl
  clear hV hk hR
  have hW := fun W (h : Below W0.heap.size W0 W) => wordsOf_any F a c ra rc m n W ((hx.below b0).below h) ((hm.below b0).below h) hC
  have HWW := hide hW
  have HRR := Lib.hid hRR
  clear hW hRR hC
  have f0 := k0.cell 0
  have f1 := k0.cell 1
  have f2 := k0.cell 2
  have f3 := k0.cell 3
  go_enter Try.func56, Try.ntmps56
  go_upto_region 1 with fail
  rw [← HW.out]
  go_wp2_with fail
  refine (unhide HV).mono ?_
  rintro e w1 ⟨rfl, b1⟩
  have k1 := k0.below b1 k0.lt
  clear f0 f1 f2 f3
  have f0 := k1.cell 0
  have f1 := k1.cell 1
  have f2 := k1.cell 2
  have f3 := k1.cell 3
  have bb1 := b0.trans (b1.mono (Nat.le_of_lt sk0))
  go_wp2_with fail
  refine (unhide HWW w1 b1).mono ?_
  rintro e w2 ⟨v, rfl, o2, b2⟩
  go_wp2
  go_ret
  exact ⟨_, rfl, by rw [HRR.out]; exact o2.mono bb1.size, bb1.trans (b2.mono bb1.size)⟩
end Go.Proofs.Ytgmgpcaahanmiaa
