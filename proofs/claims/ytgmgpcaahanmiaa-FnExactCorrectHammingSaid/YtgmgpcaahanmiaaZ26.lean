/-
  Walks: the word of a message, on both sides. Printed by gen_enc.py.
-/
import Derived.BigQuiet
import Derived.BigRegion
import Derived.ChangeOld
import Derived.Deep.DeepCutAuto
import Derived.Deep.DeepMust
import Derived.Deep.DrawnRows
import Derived.Deep.Draws
import Derived.Deep.OwnRows
import Derived.Deep.QuietTactic
import Derived.Deep.RegionHeld3
import Derived.Deep.Slices
import Derived.IntWalk
import Derived.Laws.Rows
import Derived.Lib.Hide
import Derived.Maps.AppendAt
import Derived.OpenShut
import Derived.OwnWalk
import Derived.ProofKit
import Derived.ShutString
import Derived.StillTailTactics
import Derived.Test.YtgmgpcaahanmiaaProg
import Derived.Test.YtgmgpcaahanmiaaRows
import Derived.WalkKit
import Derived.WalkLawsBesides
import Derived.WalkSpells
import Derived.Test.YtgmgpcaahanmiaaZ24
import Derived.Test.YtgmgpcaahanmiaaZ25
set_option linter.unusedVariables false
set_option linter.unusedSimpArgs false
namespace Go.Proofs.Ytgmgpcaahanmiaa
open Go.RowKit
attribute [local go_sem ↓] Go.wp_at_zero Go.wp_at_succ
set_option maxRecDepth 100000 in
set_option maxHeartbeats 1600000 in
theorem encode_any (F : FD) (tv : Value) (ra : Option Addr) (rc : Nat) (rows : List (List Int)) (b : Option Addr) (cb : Nat) (msg : List Int) (n : Nat) (w : World) (hT : Tabs w F tv) (hG : F.Good) (hx : RdS w ra rows) (hy : Rd w b msg) (h0 : 0 < rows.length) (hM : F.Mat n rows) (hn1 : 1 ≤ n) (hn : n ≤ 32) (hl : msg.length ≤ rows.length) (hm : ∀ x ∈ msg, 0 ≤ x ∧ x < F.n) : Calls Try.prog 128 #[tv, .slice ra rows.length rc, .slice b msg.length cb] w fun e w' => ∃ v, e = .returned v ∧ Own w' w.heap.size v (encTo F n rows msg msg.length) ∧ Below w.heap.size w w' := by
  have hT0 := hT
  obtain ⟨aA, cA, aS, cS, aM, cM, aI, cI, rfl, _, _, _, _⟩ := hT
  have ok := hG.ok
  obtain ⟨n2, n64⟩ := ok.n_bd
  have hxl := hx.len
  have hyl := hy.len
  have hmk := fun W => run_make_row' (P := Try.prog) 22 2 (.int .i64 0) 8 Try.underlying22 Try.info_i64 rfl .i64 .i64 n (by omega) (by omega) W
  obtain ⟨W0, hHW⟩ : ∃ z, z = w.alloc (.cells #[.int .i64 F.n, .slice aA F.n cA, .slice aS F.n cS, .slice aM F.n cM, .slice aI F.n cI] 93) := ⟨_, rfl⟩
  have b0 : Below w.heap.size w W0 := by rw [hHW]; exact (Below.refl _ _).alloc (Nat.le_refl _) _
  have kT : Blk W0 w.heap.size 93 #[.int .i64 F.n, .slice aA F.n cA, .slice aS F.n cS, .slice aM F.n cM, .slice aI F.n cI] := by rw [hHW]; exact Blk.new _ _ _ rfl
  have skT : w.heap.size < W0.heap.size := kT.lt
  have HW := Lib.hid hHW
  clear hHW
  obtain ⟨gb, ob, rfl, hgb, hcc⟩ := (hx.below b0).at_ h0
  obtain ⟨ai0, ci0, h00, _⟩ := hcc 0 h0
  rw [Nat.add_zero, (Mat_nth hM h0).1] at h00
  have HCC := hide hcc
  have HX := hide hx
  have HY := hide hy
  have HMM := hide hM
  have HMS := hide hm
  have HT := hide hT0
  clear hcc hx hy hM hm hT0
  go_enter Try.func128, Try.ntmps128
  go_upto_region 1 with fail
  rw [← HW.out]
  go_upto_region 2 with fail
  obtain ⟨W1, hW1⟩ : ∃ z, z = W0.alloc (.cells (madeCells #[.int .i64 0] n) 2) := ⟨_, rfl⟩
  have oz : Own W1 W0.heap.size (.slice (some ⟨W0.heap.size, 0, none⟩) n n) (zeros n) := by rw [hW1]; exact Own.zeros W0 (Nat.le_refl _) (by omega)
  have bz : Below W0.heap.size W0 W1 := by rw [hW1]; exact (Below.refl _ _).alloc (Nat.le_refl _) _
  have sz : W0.heap.size < W1.heap.size := by rw [hW1]; simp
  rw [← hW1]
  clear hW1
  have kT1 := kT.below bz kT.lt
  have OZ := Lib.hid oz
  clear oz hmk
  go_wp2_with fail
  go_loopw [17] (fun iv wr => ∃ k : Nat, iv = .int .i64 k ∧ k ≤ msg.length ∧ Hid (Own wr W0.heap.size (.slice (some ⟨W0.heap.size, 0, none⟩) n n) (encTo F n rows msg k)) ∧ Hid (W1.grownBy wr (some W0.heap.size))) (fun iv _ => msg.length - (intOf iv).toNat)
  case atStart => exact ⟨0, rfl, Nat.zero_le _, OZ, hide (grown_refl _ _)⟩
  case round =>
    obtain ⟨k, rfl, hk, ho, hg⟩ := hrel
    have hbg : Below W0.heap.size W0 wr := bz.grown hg.out (by omega) (fun q hq => by injection hq; omega)
    have hbw : Below w.heap.size w wr := b0.trans (hbg.mono (Nat.le_of_lt skT))
    by_cases hkl : k < msg.length
    · have kTr := kT1.grown hg.out (by intro e; injection e; omega)
      obtain ⟨gm, om, rfl, _, hcm⟩ := ((unhide HY).below hbw).at_ (by omega)
      have hc1 := hcm k hkl
      have hxr := unhide HMS _ (nth_mem hkl)
      obtain ⟨ai, ci, hr1, hrr⟩ := unhide HCC k (by omega)
      have hmk := Mat_nth (unhide HMM) (show k < rows.length by omega)
      rw [hmk.1] at hr1
      have hr1w : wr.cell? ⟨gb, ob + k, none⟩ = some (.slice ai n ci) := (hbg.cell (p := ⟨gb, ob + k, none⟩) hgb).trans hr1
      obtain ⟨x, hxx⟩ : ∃ x, x = nth msg k := ⟨_, rfl⟩
      rw [← hxx] at hc1 hxr
      have hat : Calls Try.prog 90 #[.agg #[.int .i64 F.n, .slice aA F.n cA, .slice aS F.n cS, .slice aM F.n cM, .slice aI F.n cI], .slice (some ⟨W0.heap.size, 0, none⟩) n n, .slice ai n ci, .int .i64 x] wr.drew fun e w' => e = .returned (.tuple #[]) ∧ Own w' W0.heap.size (.slice (some ⟨W0.heap.size, 0, none⟩) n n) (addTo F (encTo F n rows msg k) (nthL rows k) x n) ∧ wr.drew.grownBy w' (some W0.heap.size) := by
        have hel := encTo_len F n rows msg k
        have h := addTimes_any F _ w wr.drew W0.heap.size W0.heap.size n ai ci (encTo F n rows msg k) (nthL rows k) x ok (unhide HT) hbw.drew (Nat.le_of_lt skT) (by rw [hel]; exact ho.out.drewN 1) ((hrr.below hbg).drewN 1) (fun p hp => by
          obtain ⟨b2, o2, e2, hb2, _⟩ := hrr.at_ (by rw [hmk.1]; omega)
          rw [hp] at e2
          injection e2 with e2
          rw [e2]
          show b2 ≠ W0.heap.size
          omega) (by rw [hel, hmk.1]) hxr.1 hxr.2 (encTo_el ok n rows msg k) hmk.2
        rw [hel, hmk.1] at h
        exact h
      have HAT := hide hat
      have HST := Lib.hid (show encTo F n rows msg (k + 1) = addTo F (encTo F n rows msg k) (nthL rows k) x n by rw [encTo, hxx])
      have f0 := kTr.cell 0
      have f1 := kTr.cell 1
      have f2 := kTr.cell 2
      have f3 := kTr.cell 3
      have f4 := kTr.cell 4
      have hkr : k < rows.length := by omega
      clear hat hxx hmk hcm hrr hr1
      go_wp2_with fail
      go_still_tail 7, (by kernel_rfl)
      change wpList _ _ _ _ _ wr.drew
      go_wp2_with fail
      refine (unhide HAT).mono ?_
      rintro e w5 ⟨rfl, o5, g5⟩
      go_wp2_with fail
      go_roundw
      case rel =>
        refine ⟨k + 1, by go_num, by omega, ?_, hide (grown_trans_row (grown_trans_row hg.out (grown_drew1 wr _)) g5)⟩
        show Own _ _ _ _
        rw [HST.out]
        exact o5
      case measure => simp only [intOf]; omega
    · have hke : k = msg.length := by omega
      have HE := Lib.hid hke
      clear hke
      go_wp2_with fail
      go_ret
      exact ⟨_, rfl, by have h := ho.out; rw [HE.out] at h; exact h.mono (Nat.le_of_lt skT), hbw⟩
end Go.Proofs.Ytgmgpcaahanmiaa

/-
  Walk: the word of a message: the spec's. Printed by gen_encs.py.
-/
namespace Go.Proofs.Ytgmgpcaahanmiaa
open Go.RowKit
attribute [local go_sem ↓] Go.wp_at_zero Go.wp_at_succ
set_option maxRecDepth 100000 in
set_option maxHeartbeats 3200000 in
theorem l18Encode_any (g : Nat) (F : FD) (ra : Option Addr) (rc : Nat) (rows : List (List Int)) (b : Option Addr) (cb : Nat) (msg : List Int) (n : Nat) (w : World) (hF : PF w g F) (hG : F.Good) (hc3 : w.cell? ⟨g, 3, none⟩ = some (.slice ra rows.length rc)) (hx : RdS w ra rows) (hy : Rd w b msg) (h0 : 0 < rows.length) (hM : F.Mat n rows) (hn1 : 1 ≤ n) (hn : n ≤ 32) (hl : msg.length ≤ rows.length) (hm : ∀ x ∈ msg, 0 ≤ x ∧ x < F.n) : Calls Try.prog 134 #[.pointer (some ⟨g, 0, none⟩), .slice b msg.length cb] w fun e w' => ∃ v, e = .returned v ∧ Own w' w.heap.size v (encTo F n rows msg msg.length) ∧ Below w.heap.size w w' := by
  have ok := hG.ok
  obtain ⟨n2, n64⟩ := ok.n_bd
  have hxl := hx.len
  have hyl := hy.len
  have hglt : g < w.heap.size := World.block_lt_of_cell? w _ hc3
  have hmk := fun W => run_make_row' (P := Try.prog) 22 2 (.int .i64 0) 8 Try.underlying22 Try.info_i64 rfl .i64 .i64 n (by omega) (by omega) W
  obtain ⟨gb, ob, rfl, hgb, hcc⟩ := hx.at_ h0
  obtain ⟨ai0, ci0, h00, _⟩ := hcc 0 h0
  rw [Nat.add_zero, (Mat_nth hM h0).1] at h00
  have HCC := hide hcc
  have HY := hide hy
  have HMM := hide hM
  have HMS := hide hm
  have HF := hide hF
  clear hcc hx hy hM hm hF
  go_enter Try.func134, Try.ntmps134
  go_upto_region 2 with fail
  obtain ⟨W1, hW1⟩ : ∃ z, z = w.alloc (.cells (madeCells #[.int .i64 0] n) 2) := ⟨_, rfl⟩
  have oz : Own W1 w.heap.size (.slice (some ⟨w.heap.size, 0, none⟩) n n) (zeros n) := by rw [hW1]; exact Own.zeros w (Nat.le_refl _) (by omega)
  have bz : Below w.heap.size w W1 := by rw [hW1]; exact (Below.refl _ _).alloc (Nat.le_refl _) _
  rw [← hW1]
  clear hW1
  have OZ := Lib.hid oz
  clear oz hmk
  go_wp2_with fail
  go_loopw [6] (fun iv wr => ∃ i : Nat, iv = .int .i64 i ∧ i ≤ msg.length ∧ Hid (Own wr w.heap.size (.slice (some ⟨w.heap.size, 0, none⟩) n n) (encTo F n rows msg i)) ∧ Below w.heap.size w wr) (fun iv _ => msg.length - (intOf iv).toNat)
  case atStart => exact ⟨0, rfl, Nat.zero_le _, OZ, bz⟩
  case round =>
    obtain ⟨i, rfl, hi, ho, hb⟩ := hrel
    by_cases hil : i < msg.length
    · obtain ⟨gm, om, rfl, hgm, hcm⟩ := (unhide HY).at_ (by omega)
      have hc1 := hcm i hil
      have hxr := unhide HMS _ (nth_mem hil)
      have hir : i < rows.length := by omega
      obtain ⟨ai, ci, hr1, hrr⟩ := unhide HCC i hir
      have hmt := Mat_nth (unhide HMM) hir
      have hst : encTo F n rows msg (i + 1) = addTo F (encTo F n rows msg i) (nthL rows i) (nth msg i) n := rfl
      have hel := encTo_len F n rows msg i
      have hee := encTo_el ok n rows msg i
      obtain ⟨E, hE⟩ : ∃ E, E = encTo F n rows msg i := ⟨_, rfl⟩
      obtain ⟨x, hxx⟩ : ∃ x, x = nth msg i := ⟨_, rfl⟩
      obtain ⟨row, hrow⟩ : ∃ row, row = nthL rows i := ⟨_, rfl⟩
      rw [← hE] at ho hst hel hee
      rw [← hxx] at hc1 hxr hst
      rw [← hrow] at hr1 hrr hmt hst
      rw [hmt.1] at hr1
      obtain ⟨ge, oe, rfl, hge, hce⟩ := hrr.at_ (by rw [hmt.1]; omega)
      have HCE := hide hce
      have HST := Lib.hid hst
      have HMT := hide hmt
      have HEL := Lib.hid hel
      have HEE := hide hee
      clear hE hxx hrow hce hst hmt hel hee hrr hcm
      go_wp2_with fail
      go_loopw [7] (fun kv wr => ∃ k : Nat, kv = .int .i64 k ∧ k ≤ n ∧ Hid (Own wr w.heap.size (.slice (some ⟨w.heap.size, 0, none⟩) n n) (addTo F E row x k)) ∧ Below w.heap.size w wr) (fun kv _ => n - (intOf kv).toNat)
      case atStart => exact ⟨0, rfl, Nat.zero_le _, ho, hb⟩
      case round =>
        obtain ⟨k, rfl, hk, ho2, hb2⟩ := hrel
        by_cases hkn : k < n
        · have hsz := hb2.size
          have hal : (addTo F E row x k).length = n := by rw [addTo_len, HEL.out]
          have c36 := ho2.out.cell (j := k) (by rw [hal]; exact hkn)
          rw [addTo_nth F E row x k (by rw [HEL.out]; omega), if_neg (by omega)] at c36
          have f36 := ho2.out.frozen k
          have hG1 : w.heap.size < wr.heap.size := World.block_lt_of_cell? wr _ c36
          have hek := unhide HEE _ (nth_mem (k := k) (by rw [HEL.out]; exact hkn))
          have c53 := unhide HCE k (by rw [(unhide HMT).1]; exact hkn)
          have hyr := (unhide HMT).2 _ (nth_mem (k := k) (by rw [(unhide HMT).1]; exact hkn))
          have hsu : addTo F E row x (k + 1) = (addTo F E row x k).set k (F.add (nth E k) (F.mul x (nth row k))) := rfl
          obtain ⟨e, hE⟩ : ∃ e, e = nth E k := ⟨_, rfl⟩
          obtain ⟨y, hY⟩ : ∃ y, y = nth row k := ⟨_, rfl⟩
          rw [← hE] at c36 hek hsu
          rw [← hY] at c53 hyr hsu
          have hmul := fun W (h : Below wr.heap.size wr W) => (l03Mul_any g F x y W ((unhide HF).below (hb2.trans (h.mono hsz))) ok hxr.1 (by omega) hyr.1 (by omega)).mono fun e w' q => And.intro q.1 (Below.chain h q.2)
          change ∀ W, Below wr.heap.size wr W → Calls Try.prog 83 #[.pointer (some ⟨g, 0, none⟩), .int .i64 x, .int .i64 y] W fun e w' => e = .returned (.int .i64 (F.mul x y)) ∧ Below wr.heap.size wr w' at hmul
          have hMb := mul_bd ok x y
          obtain ⟨M, hM⟩ : ∃ M, M = F.mul x y := ⟨_, rfl⟩
          rw [← hM] at hmul hsu hMb
          have hsum := fun W (h : Below wr.heap.size wr W) => (l03Sum_any g F e M 1 W ((unhide HF).below (hb2.trans (h.mono hsz))) ok hek.1 (by omega) hMb.1 (by omega) (by omega) (by omega)).mono fun e w' q => And.intro q.1 (Below.chain h q.2)
          change ∀ W, Below wr.heap.size wr W → Calls Try.prog 82 #[.pointer (some ⟨g, 0, none⟩), .int .i64 e, .int .i64 M, .int .i64 1] W fun r w' => r = .returned (.int .i64 (F.add e M)) ∧ Below wr.heap.size wr w' at hsum
          obtain ⟨D, hD⟩ : ∃ D, D = F.add e M := ⟨_, rfl⟩
          rw [← hD] at hsum hsu
          have c43 := (hb2.cell (p := ⟨gm, om + i, none⟩) hgm).trans hc1
          have c47 := (hb2.cell (p := ⟨g, 3, none⟩) hglt).trans hc3
          have c50 := (hb2.cell (p := ⟨gb, ob + i, none⟩) hgb).trans hr1
          have c53 := (hb2.cell (p := ⟨ge, oe + k, none⟩) hge).trans c53
          have later : ∀ W, Below wr.heap.size wr W → (W.cell? ⟨w.heap.size, k, none⟩ = some (.int .i64 e) ∧ W.frozen? ⟨w.heap.size, k, none⟩ = false) := fun W h => ⟨(h.cell (p := ⟨w.heap.size, k, none⟩) hG1).trans c36, (ho2.out.below h (Nat.le_refl _)).frozen k⟩
          have LT := hide later
          have HMUL := hide hmul
          have HSUM := hide hsum
          have HSU := Lib.hid hsu
          clear hE hY hM hD hmul hsum hsu later hal hMb hek hyr
          go_upto_region 8 with fail
          go_region_with (first
            | (go_at_call 83; refine (unhide HMUL _ ?_).mono ?_; first | exact Below.refl _ _ | exact (Below.refl _ _).drew; rintro e W1 ⟨rfl, b1⟩; have d36 := (unhide LT _ b1).1)
            | (go_at_call 82; refine (unhide HSUM _ ?_).mono ?_; exact (by assumption); rintro e W2 ⟨rfl, b2⟩; have d37 := (unhide LT _ b2).1; have f37 := (unhide LT _ b2).2))
          all_goals
            go_wp2
            go_roundw
            case rel =>
              have hs := (ho2.out.below b2 (Nat.le_refl _)).set k D
              refine ⟨k + 1, by go_num, by omega, ?_, (hb2.trans (b2.mono hsz)).grown hs.2 (by have := b2.size; omega) (fun q hq => by injection hq; omega)⟩
              show Own _ _ _ _
              rw [HSU.out]
              exact hs.1
            case measure => simp only [intOf]; omega
        · have hke : k = n := by omega
          have HK := Lib.hid hke
          clear hke
          go_wp2_with fail
          go_roundw
          case rel =>
            refine ⟨i + 1, by go_num, by omega, ?_, hb2⟩
            show Own _ _ _ _
            rw [HST.out]
            have h := ho2.out
            rw [HK.out] at h
            exact h
          case measure => simp only [intOf]; omega
    · have hie : i = msg.length := by omega
      have HE := Lib.hid hie
      clear hie
      go_wp2_with fail
      go_ret
      exact ⟨_, rfl, by have h := ho.out; rw [HE.out] at h; exact h, hb⟩
end Go.Proofs.Ytgmgpcaahanmiaa

/-
  Walks: EncodeWord on both sides. Printed by gen_enc2.py.
-/
namespace Go.Proofs.Ytgmgpcaahanmiaa
open Go.RowKit
attribute [local go_sem ↓] Go.wp_at_zero Go.wp_at_succ

theorem elems_iff {q : Int} {xs : List Int} (h : elems q xs = true) : ∀ x ∈ xs, 0 ≤ x ∧ x < q := by
  exact elems_true.1 h
/-- Whether a list is a vector over a valid code's field. -/
noncomputable def okV (p d : Int) (xs : List Int) (m : List (List Int)) (v : List Int) : Bool := okC p d xs m && elems (fdR p d xs).n v
noncomputable def encRes (p d : Int) (xs : List Int) (m : List (List Int)) (v : List Int) : List Int × Int :=
  if okV p d xs m v = true then (if v.length = m.length then (encTo (fdR p d xs) (nthL m 0).length m v v.length, 0) else ([], 6)) else ([], 1)
set_option maxRecDepth 100000 in
set_option maxHeartbeats 1600000 in
theorem isVector_any (p d : Int) (a : Option Addr) (c : Nat) (xs : List Int) (ra : Option Addr) (rc : Nat) (m : List (List Int)) (b : Option Addr) (cb : Nat) (v : List Int) (w : World) (hx : Rd w a xs) (hm : RdS w ra m) (hy : Rd w b v) (ed : I64 d) : Calls Try.prog 127 #[.agg #[.int .i64 p, .int .i64 d, .slice a xs.length c, .slice ra m.length rc], .slice b v.length cb] w fun e w' => e = .returned (.bool (okV p d xs m v)) ∧ Below w.heap.size w w' := by
  obtain ⟨W0, hHW⟩ : ∃ z, z = w.alloc (.cells #[.int .i64 p, .int .i64 d, .slice a xs.length c, .slice ra m.length rc] 37) := ⟨_, rfl⟩
  have b0 : Below w.heap.size w W0 := by rw [hHW]; exact (Below.refl _ _).alloc (Nat.le_refl _) _
  have k0 : Blk W0 w.heap.size 37 #[.int .i64 p, .int .i64 d, .slice a xs.length c, .slice ra m.length rc] := by rw [hHW]; exact Blk.new _ _ _ rfl
  have sk0 : w.heap.size < W0.heap.size := k0.lt
  have HW := Lib.hid hHW
  clear hHW
  have hV := implVC_any p d a c xs ra rc m W0 (hx.below b0) (hm.below b0) ed
  cases hk : okC p d xs m with
  | false =>
    have HN := Lib.hid (show okV p d xs m v = false by rw [okV, hk]; rfl)
    rw [hk] at hV
    have HV := hide hV
    clear hV hk
    have f0 := k0.cell 0
    have f1 := k0.cell 1
    have f2 := k0.cell 2
    have f3 := k0.cell 3
    go_enter Try.func127, Try.ntmps127
    go_upto_region 1 with fail
    rw [← HW.out]
    go_wp2_with fail
    refine (unhide HV).mono ?_
    rintro e w1 ⟨rfl, b1⟩
    go_wp2
    go_ret
    exact ⟨ret_bool (by rw [HN.out]), b0.trans (b1.mono (Nat.le_of_lt sk0))⟩
  | true =>
    obtain ⟨F, n, rfl, rfl, rfl, hC⟩ := okC_gc hk
    have ok := hC.good.ok
    obtain ⟨n2, n64⟩ := ok.n_bd
    have HO := Lib.hid (show okV F.p F.k F.poly m v = elems F.n v by rw [okV, hk, fdR_eq]; rfl)
    have hFS := fun W => fieldSize_any F a c W ok
    have hE := fun W h => areIn_any F.n b cb v W (by omega) (by omega) ((hy.below b0).below h)
    rw [hk] at hV
    have HV := hide hV
    have HFS := hide hFS
    have HE := hide hE
    clear hV hk hFS hE
    go_enter Try.func127, Try.ntmps127
    have f0 := k0.cell 0
    have f1 := k0.cell 1
    have f2 := k0.cell 2
    have f3 := k0.cell 3
    go_upto_region 1 with fail
    rw [← HW.out]
    go_wp2_with fail
    refine (unhide HV).mono ?_
    rintro e w1 ⟨rfl, b1⟩
    have k1 := k0.below b1 k0.lt
    have h0 := k1.cell 0
    have h1 := k1.cell 1
    have h2 := k1.cell 2
    have h3 := k1.cell 3
    go_wp2_with fail
    refine (unhide HFS w1).mono ?_
    rintro e w2 ⟨rfl, b2⟩
    go_wp2_with fail
    refine (unhide HE w2 (Below.chain b1 b2)).mono ?_
    rintro e w3 ⟨rfl, b3⟩
    go_wp2
    go_ret
    exact ⟨ret_bool (by rw [HO.out]), b0.trans ((Below.chain (Below.chain b1 b2) b3).mono (Nat.le_of_lt sk0))⟩
set_option maxRecDepth 100000 in
set_option maxHeartbeats 1600000 in
theorem specEW_any (p d : Int) (a : Option Addr) (c : Nat) (xs : List Int) (ra : Option Addr) (rc : Nat) (m : List (List Int)) (b : Option Addr) (cb : Nat) (v : List Int) (w : World) (hx : Rd w a xs) (hm : RdS w ra m) (hy : Rd w b v) : Calls Try.prog 48 #[.agg #[.int .i64 p, .int .i64 d, .slice a xs.length c, .slice ra m.length rc], .slice b v.length cb] w (ResL w (encRes p d xs m v)) := by
  have hml := hm.len
  have hvl := hy.len
  generalize hR : encRes p d xs m v = r
  obtain ⟨W0, hHW⟩ : ∃ z, z = w.alloc (.cells #[.int .i64 p, .int .i64 d, .slice a xs.length c, .slice ra m.length rc] 37) := ⟨_, rfl⟩
  have b0 : Below w.heap.size w W0 := by rw [hHW]; exact (Below.refl _ _).alloc (Nat.le_refl _) _
  have k0 : Blk W0 w.heap.size 37 #[.int .i64 p, .int .i64 d, .slice a xs.length c, .slice ra m.length rc] := by rw [hHW]; exact Blk.new _ _ _ rfl
  have sk0 : w.heap.size < W0.heap.size := k0.lt
  have HW := Lib.hid hHW
  clear hHW
  have hC0 : PC W0 w.heap.size p d a c xs ra rc m := ⟨⟨k0.cell 0, k0.cell 1, k0.cell 2, hx.below b0⟩, k0.cell 3, hm.below b0⟩
  have hV := l18Ok_any w.heap.size p d a c xs ra rc m W0 hC0
  cases hk : okC p d xs m with
  | false =>
    have HN := Lib.hid (show r = ([], 1) by rw [← hR, encRes, okV, hk]; rfl)
    rw [hk] at hV
    have HV := hide hV
    clear hV hk hR
    have f0 := k0.cell 0
    have f1 := k0.cell 1
    have f2 := k0.cell 2
    have f3 := k0.cell 3
    go_enter Try.func48, Try.ntmps48
    go_upto_region 1 with fail
    rw [← HW.out]
    go_wp2_with fail
    refine (unhide HV).mono ?_
    rintro e w1 ⟨rfl, b1⟩
    have k1 := k0.below b1 k0.lt
    have h0 := k1.cell 0
    have h1 := k1.cell 1
    have h2 := k1.cell 2
    have h3 := k1.cell 3
    have bb1 := b0.trans (b1.mono (Nat.le_of_lt sk0))
    go_wp2
    go_ret2
    rw [HN.out]
    exact ⟨_, rfl, Own.nil _ _, bb1⟩
  | true =>
    obtain ⟨F, n, rfl, rfl, rfl, hC⟩ := okC_gc hk
    have ok := hC.good.ok
    obtain ⟨n2, n64⟩ := ok.n_bd
    have hE := fun W (h : Below W0.heap.size W0 W) => l17Vector_any w.heap.size F b cb v W (hC0.below h).1.pf ok ((hy.below b0).below h)
    rw [hk] at hV
    have HV := hide hV
    cases he : elems F.n v with
    | false =>
      have HN := Lib.hid (show r = ([], 1) by rw [← hR, encRes, okV, hk, fdR_eq, he]; rfl)
      rw [he] at hE
      have HE := hide hE
      clear hV hk hE he hC0
      have f0 := k0.cell 0
      have f1 := k0.cell 1
      have f2 := k0.cell 2
      have f3 := k0.cell 3
      go_enter Try.func48, Try.ntmps48
      go_upto_region 1 with fail
      rw [← HW.out]
      go_wp2_with fail
      refine (unhide HV).mono ?_
      rintro e w1 ⟨rfl, b1⟩
      have k1 := k0.below b1 k0.lt
      have h0 := k1.cell 0
      have h1 := k1.cell 1
      have h2 := k1.cell 2
      have h3 := k1.cell 3
      have bb1 := b0.trans (b1.mono (Nat.le_of_lt sk0))
      go_wp2_with fail
      refine (unhide HE w1 b1).mono ?_
      rintro e w2 ⟨rfl, q2⟩
      have bb2 := Below.chain bb1 (q2.below _)
      go_wp2
      go_ret2
      rw [HN.out]
      exact ⟨_, rfl, Own.nil _ _, bb2⟩
    | true =>
      rw [he] at hE
      have HE := hide hE
      have hRR : r = if v.length = m.length then (encTo F (nthL m 0).length m v v.length, 0) else ([], 6) := by rw [← hR, encRes, okV, hk, fdR_eq, he]; rfl
      have hEl := elems_iff he
      clear hV hk hE he hR
      rw [hC.hn] at hRR
      have HH := hide hC
      by_cases hle : v.length = m.length
      ·
        rw [if_pos hle] at hRR
        have HRR := Lib.hid hRR
        have hm1 := hC.m1
        have hbq : ((v.length : Int) != (m.length : Int)) = false := by rw [hle]; simp
        have hvm : v.length ≤ m.length := by omega
        have HLE := Lib.hid hle
        clear hle
        have hW := fun W (h : Below W0.heap.size W0 W) => l18Encode_any w.heap.size F ra rc m b cb v n W (hC0.below h).1.pf hC.good (hC0.below h).2.1 (hC0.below h).2.2 ((hy.below b0).below h) hm1 hC.mat hC.n1 hC.n32 hvm hEl
        have HWW := hide hW
        clear hW hRR hEl hC0 hC
        have f0 := k0.cell 0
        have f1 := k0.cell 1
        have f2 := k0.cell 2
        have f3 := k0.cell 3
        go_enter Try.func48, Try.ntmps48
        go_upto_region 1 with fail
        rw [← HW.out]
        go_wp2_with fail
        refine (unhide HV).mono ?_
        rintro e w1 ⟨rfl, b1⟩
        have k1 := k0.below b1 k0.lt
        have h0 := k1.cell 0
        have h1 := k1.cell 1
        have h2 := k1.cell 2
        have h3 := k1.cell 3
        have bb1 := b0.trans (b1.mono (Nat.le_of_lt sk0))
        go_wp2_with fail
        refine (unhide HE w1 b1).mono ?_
        rintro e w2 ⟨rfl, q2⟩
        have b2 := Below.chain b1 (q2.below _)
        have k2 := k0.below b2 k0.lt
        have j0 := k2.cell 0
        have j1 := k2.cell 1
        have j2 := k2.cell 2
        have j3 := k2.cell 3
        go_wp2_with fail
        refine (unhide HWW w2 b2).mono ?_
        rintro e w3 ⟨u, rfl, o3, b3⟩
        go_wp2
        go_ret2
        rw [HRR.out]
        exact ⟨_, rfl, o3.mono (by have := b2.size; omega), b0.trans ((Below.chain b2 b3).mono (Nat.le_of_lt sk0))⟩
      ·
        rw [if_neg hle] at hRR
        have HN := Lib.hid hRR
        have hle' : ¬ ((v.length : Int) = (m.length : Int)) := by omega
        clear hRR hEl hC hC0
        have f0 := k0.cell 0
        have f1 := k0.cell 1
        have f2 := k0.cell 2
        have f3 := k0.cell 3
        go_enter Try.func48, Try.ntmps48
        go_upto_region 1 with fail
        rw [← HW.out]
        go_wp2_with fail
        refine (unhide HV).mono ?_
        rintro e w1 ⟨rfl, b1⟩
        have k1 := k0.below b1 k0.lt
        have h0 := k1.cell 0
        have h1 := k1.cell 1
        have h2 := k1.cell 2
        have h3 := k1.cell 3
        have bb1 := b0.trans (b1.mono (Nat.le_of_lt sk0))
        go_wp2_with fail
        refine (unhide HE w1 b1).mono ?_
        rintro e w2 ⟨rfl, q2⟩
        have b2 := Below.chain b1 (q2.below _)
        have bb2 := Below.chain bb1 (q2.below _)
        have k2 := k0.below b2 k0.lt
        have j0 := k2.cell 0
        have j1 := k2.cell 1
        have j2 := k2.cell 2
        have j3 := k2.cell 3
        go_wp2
        go_ret2
        rw [HN.out]
        exact ⟨_, rfl, Own.nil _ _, bb2⟩
set_option maxRecDepth 100000 in
set_option maxHeartbeats 1600000 in
theorem implEW_any (p d : Int) (a : Option Addr) (c : Nat) (xs : List Int) (ra : Option Addr) (rc : Nat) (m : List (List Int)) (b : Option Addr) (cb : Nat) (v : List Int) (w : World) (hx : Rd w a xs) (hm : RdS w ra m) (hy : Rd w b v) (ed : I64 d) : Calls Try.prog 42 #[.agg #[.int .i64 p, .int .i64 d, .slice a xs.length c, .slice ra m.length rc], .slice b v.length cb] w (ResL w (encRes p d xs m v)) := by
  have hml := hm.len
  have hvl := hy.len
  generalize hR : encRes p d xs m v = r
  obtain ⟨W0, hHW⟩ : ∃ z, z = w.alloc (.cells #[.int .i64 p, .int .i64 d, .slice a xs.length c, .slice ra m.length rc] 37) := ⟨_, rfl⟩
  have b0 : Below w.heap.size w W0 := by rw [hHW]; exact (Below.refl _ _).alloc (Nat.le_refl _) _
  have k0 : Blk W0 w.heap.size 37 #[.int .i64 p, .int .i64 d, .slice a xs.length c, .slice ra m.length rc] := by rw [hHW]; exact Blk.new _ _ _ rfl
  have sk0 : w.heap.size < W0.heap.size := k0.lt
  have HW := Lib.hid hHW
  clear hHW
  have hV := isVector_any p d a c xs ra rc m b cb v W0 (hx.below b0) (hm.below b0) (hy.below b0) ed
  cases hk : okV p d xs m v with
  | false =>
    have HN := Lib.hid (show r = ([], 1) by rw [← hR, encRes, hk]; rfl)
    rw [hk] at hV
    have HV := hide hV
    clear hV hk hR
    have f0 := k0.cell 0
    have f1 := k0.cell 1
    have f2 := k0.cell 2
    have f3 := k0.cell 3
    go_enter Try.func42, Try.ntmps42
    go_upto_region 1 with fail
    rw [← HW.out]
    go_wp2_with fail
    refine (unhide HV).mono ?_
    rintro e w1 ⟨rfl, b1⟩
    have k1 := k0.below b1 k0.lt
    have h0 := k1.cell 0
    have h1 := k1.cell 1
    have h2 := k1.cell 2
    have h3 := k1.cell 3
    have bb1 := b0.trans (b1.mono (Nat.le_of_lt sk0))
    go_wp2
    go_ret2
    rw [HN.out]
    exact ⟨_, rfl, Own.nil _ _, bb1⟩
  | true =>
    rw [hk] at hV
    have HV := hide hV
    have hk0 := hk
    rw [okV, Bool.and_eq_true] at hk
    obtain ⟨F, n, rfl, rfl, rfl, hC⟩ := okC_gc hk.1
    have he := hk.2
    rw [fdR_eq] at he
    have ok := hC.good.ok
    obtain ⟨n2, n64⟩ := ok.n_bd
    have hRR : r = if v.length = m.length then (encTo F (nthL m 0).length m v v.length, 0) else ([], 6) := by rw [← hR, encRes, hk0, fdR_eq]; rfl
    have hEl := elems_iff he
    clear hV hk hk0 he hR
    rw [hC.hn] at hRR
    have HH := hide hC
    by_cases hle : v.length = m.length
    ·
      rw [if_pos hle] at hRR
      have HRR := Lib.hid hRR
      have hm1 := hC.m1
      have hbq : ((v.length : Int) != (m.length : Int)) = false := by rw [hle]; simp
      have hvm : v.length ≤ m.length := by omega
      have HLE := Lib.hid hle
      clear hle
      have hT := fun W (h : Below W0.heap.size W0 W) => tablesOf_any F a c W ((hx.below b0).below h) ok
      have hW := fun tv W h (hB : Below W0.heap.size W0 W) => encode_any F tv ra rc m b cb v n W h hC.good ((hm.below b0).below hB) ((hy.below b0).below hB) hm1 hC.mat hC.n1 hC.n32 hvm hEl
      have HT := hide hT
      have BX := hide (show ∀ W, Below W0.heap.size W0 W → (Below W0.heap.size W0 W ∧ W.cell? ⟨w.heap.size, 0, none⟩ = some (.int .i64 F.p) ∧ W.cell? ⟨w.heap.size, 1, none⟩ = some (.int .i64 F.k) ∧ W.cell? ⟨w.heap.size, 2, none⟩ = some (.slice a F.poly.length c) ∧ W.cell? ⟨w.heap.size, 3, none⟩ = some (.slice ra m.length rc)) from fun W h => ⟨h, (k0.below h k0.lt).cell 0, (k0.below h k0.lt).cell 1, (k0.below h k0.lt).cell 2, (k0.below h k0.lt).cell 3⟩)
      have HWW := hide hW
      clear hT hW hRR hEl hC
      have f0 := k0.cell 0
      have f1 := k0.cell 1
      have f2 := k0.cell 2
      have f3 := k0.cell 3
      go_enter Try.func42, Try.ntmps42
      go_upto_region 1 with fail
      rw [← HW.out]
      go_wp2_with fail
      refine (unhide HV).mono ?_
      rintro e w1 ⟨rfl, b1⟩
      have k1 := k0.below b1 k0.lt
      have h0 := k1.cell 0
      have h1 := k1.cell 1
      have h2 := k1.cell 2
      have h3 := k1.cell 3
      have bb1 := b0.trans (b1.mono (Nat.le_of_lt sk0))
      go_upto_region 5 with fail
      go_region_held3 (fun W => Below W0.heap.size W0 W ∧ W.cell? ⟨w.heap.size, 0, none⟩ = some (.int .i64 F.p) ∧ W.cell? ⟨w.heap.size, 1, none⟩ = some (.int .i64 F.k) ∧ W.cell? ⟨w.heap.size, 2, none⟩ = some (.slice a F.poly.length c) ∧ W.cell? ⟨w.heap.size, 3, none⟩ = some (.slice ra m.length rc))
        (first | exact (unhide BX) _ b1.drew | exact (unhide BX) _ (by assumption))
        (first
          | (go_at_call 89; refine (unhide HT _ ?_).mono ?_; exact And.left (by assumption); rintro e w2 ⟨tv, rfl, t2, b2⟩; have hB2 := Below.chain (a := W0) (And.left (by assumption)) b2)
          | (go_at_call 128; refine (unhide HWW tv _ t2 hB2).mono ?_; rintro e w3 ⟨u, rfl, o3, b3⟩; have hB3 := Below.chain hB2 b3))
      go_wp2
      go_ret2
      rw [HRR.out]
      exact ⟨_, rfl, o3.mono (by have := hB2.size; omega), b0.trans (hB3.mono (Nat.le_of_lt sk0))⟩
    ·
      rw [if_neg hle] at hRR
      have HN := Lib.hid hRR
      have hle' : ¬ ((v.length : Int) = (m.length : Int)) := by omega
      clear hRR hEl hC
      have f0 := k0.cell 0
      have f1 := k0.cell 1
      have f2 := k0.cell 2
      have f3 := k0.cell 3
      go_enter Try.func42, Try.ntmps42
      go_upto_region 1 with fail
      rw [← HW.out]
      go_wp2_with fail
      refine (unhide HV).mono ?_
      rintro e w1 ⟨rfl, b1⟩
      have k1 := k0.below b1 k0.lt
      have h0 := k1.cell 0
      have h1 := k1.cell 1
      have h2 := k1.cell 2
      have h3 := k1.cell 3
      have bb1 := b0.trans (b1.mono (Nat.le_of_lt sk0))
      go_wp2
      go_ret2
      rw [HN.out]
      exact ⟨_, rfl, Own.nil _ _, bb1⟩
end Go.Proofs.Ytgmgpcaahanmiaa

