/-
  Walks: the word of a message, on both sides. Printed by gen_enc.py.
-/
import Derived.BigQuiet
import Derived.BigRegion
import Derived.ChangeOld
import Derived.Deep.DeepCutAuto
import Derived.Deep.DeepMust
import Derived.Deep.DrawnRows
import Derived.Deep.Draws
import Derived.Deep.OwnRows
import Derived.Deep.QuietTactic
import Derived.Deep.RegionHeld3
import Derived.Deep.Slices
import Derived.IntWalk
import Derived.Laws.Rows
import Derived.Lib.Hide
import Derived.Maps.AppendAt
import Derived.OpenShut
import Derived.OwnWalk
import Derived.ProofKit
import Derived.ShutString
import Derived.StillTailTactics
import Derived.Test.YtcblhjhabhjbkaaProg
import Derived.Test.YtcblhjhabhjbkaaRows
import Derived.WalkKit
import Derived.WalkLawsBesides
import Derived.WalkSpells
import Derived.Test.YtcblhjhabhjbkaaZ24
import Derived.Test.YtcblhjhabhjbkaaZ25
set_option linter.unusedVariables false
set_option linter.unusedSimpArgs false
namespace Go.Proofs.Ytcblhjhabhjbkaa
open Go.RowKit
attribute [local go_sem ↓] Go.wp_at_zero Go.wp_at_succ
set_option maxRecDepth 100000 in
set_option maxHeartbeats 1600000 in
theorem encode_any (F : FD) (tv : Value) (ra : Option Addr) (rc : Nat) (rows : List (List Int)) (b : Option Addr) (cb : Nat) (msg : List Int) (n : Nat) (w : World) (hT : Tabs w F tv) (hG : F.Good) (hx : RdS w ra rows) (hy : Rd w b msg) (h0 : 0 < rows.length) (hM : F.Mat n rows) (hn1 : 1 ≤ n) (hn : n ≤ 32) (hl : msg.length ≤ rows.length) (hm : ∀ x ∈ msg, 0 ≤ x ∧ x < F.n) : Calls Try.prog 50 #[tv, .slice ra rows.length rc, .slice b msg.length cb] w fun e w' => ∃ v, e = .returned v ∧ Own w' w.heap.size v (encTo F n rows msg msg.length) ∧ Below w.heap.size w w' := by
  have hT0 := hT
  obtain ⟨aA, cA, aS, cS, aM, cM, aI, cI, rfl, _, _, _, _⟩ := hT
  have ok := hG.ok
  obtain ⟨n2, n64⟩ := ok.n_bd
  have hxl := hx.len
  have hyl := hy.len
  have hmk := fun W => run_make_row' (P := Try.prog) 22 2 (.int .i64 0) 8 Try.underlying22 Try.info_i64 rfl .i64 .i64 n (by omega) (by omega) W
  obtain ⟨W0, hHW⟩ : ∃ z, z = w.alloc (.cells #[.int .i64 F.n, .slice aA F.n cA, .slice aS F.n cS, .slice aM F.n cM, .slice aI F.n cI] 62) := ⟨_, rfl⟩
  have b0 : Below w.heap.size w W0 := by rw [hHW]; exact (Below.refl _ _).alloc (Nat.le_refl _) _
  have kT : Blk W0 w.heap.size 62 #[.int .i64 F.n, .slice aA F.n cA, .slice aS F.n cS, .slice aM F.n cM, .slice aI F.n cI] := by rw [hHW]; exact Blk.new _ _ _ rfl
  have skT : w.heap.size < W0.heap.size := kT.lt
  have HW := Lib.hid hHW
  clear hHW
  obtain ⟨gb, ob, rfl, hgb, hcc⟩ := (hx.below b0).at_ h0
  obtain ⟨ai0, ci0, h00, _⟩ := hcc 0 h0
  rw [Nat.add_zero, (Mat_nth hM h0).1] at h00
  have HCC := hide hcc
  have HX := hide hx
  have HY := hide hy
  have HMM := hide hM
  have HMS := hide hm
  have HT := hide hT0
  clear hcc hx hy hM hm hT0
  go_enter Try.func50, Try.ntmps50
  go_upto_region 1 with fail
  rw [← HW.out]
  go_upto_region 2 with fail
  obtain ⟨W1, hW1⟩ : ∃ z, z = W0.alloc (.cells (madeCells #[.int .i64 0] n) 2) := ⟨_, rfl⟩
  have oz : Own W1 W0.heap.size (.slice (some ⟨W0.heap.size, 0, none⟩) n n) (zeros n) := by rw [hW1]; exact Own.zeros W0 (Nat.le_refl _) (by omega)
  have bz : Below W0.heap.size W0 W1 := by rw [hW1]; exact (Below.refl _ _).alloc (Nat.le_refl _) _
  have sz : W0.heap.size < W1.heap.size := by rw [hW1]; simp
  rw [← hW1]
  clear hW1
  have kT1 := kT.below bz kT.lt
  have OZ := Lib.hid oz
  clear oz hmk
  go_wp2_with fail
  go_loopw [17] (fun iv wr => ∃ k : Nat, iv = .int .i64 k ∧ k ≤ msg.length ∧ Hid (Own wr W0.heap.size (.slice (some ⟨W0.heap.size, 0, none⟩) n n) (encTo F n rows msg k)) ∧ Hid (W1.grownBy wr (some W0.heap.size))) (fun iv _ => msg.length - (intOf iv).toNat)
  case atStart => exact ⟨0, rfl, Nat.zero_le _, OZ, hide (grown_refl _ _)⟩
  case round =>
    obtain ⟨k, rfl, hk, ho, hg⟩ := hrel
    have hbg : Below W0.heap.size W0 wr := bz.grown hg.out (by omega) (fun q hq => by injection hq; omega)
    have hbw : Below w.heap.size w wr := b0.trans (hbg.mono (Nat.le_of_lt skT))
    by_cases hkl : k < msg.length
    · have kTr := kT1.grown hg.out (by intro e; injection e; omega)
      obtain ⟨gm, om, rfl, _, hcm⟩ := ((unhide HY).below hbw).at_ (by omega)
      have hc1 := hcm k hkl
      have hxr := unhide HMS _ (nth_mem hkl)
      obtain ⟨ai, ci, hr1, hrr⟩ := unhide HCC k (by omega)
      have hmk := Mat_nth (unhide HMM) (show k < rows.length by omega)
      rw [hmk.1] at hr1
      have hr1w : wr.cell? ⟨gb, ob + k, none⟩ = some (.slice ai n ci) := (hbg.cell (p := ⟨gb, ob + k, none⟩) hgb).trans hr1
      obtain ⟨x, hxx⟩ : ∃ x, x = nth msg k := ⟨_, rfl⟩
      rw [← hxx] at hc1 hxr
      have hat : Calls Try.prog 82 #[.agg #[.int .i64 F.n, .slice aA F.n cA, .slice aS F.n cS, .slice aM F.n cM, .slice aI F.n cI], .slice (some ⟨W0.heap.size, 0, none⟩) n n, .slice ai n ci, .int .i64 x] wr.drew fun e w' => e = .returned (.tuple #[]) ∧ Own w' W0.heap.size (.slice (some ⟨W0.heap.size, 0, none⟩) n n) (addTo F (encTo F n rows msg k) (nthL rows k) x n) ∧ wr.drew.grownBy w' (some W0.heap.size) := by
        have hel := encTo_len F n rows msg k
        have h := addTimes_any F _ w wr.drew W0.heap.size W0.heap.size n ai ci (encTo F n rows msg k) (nthL rows k) x ok (unhide HT) hbw.drew (Nat.le_of_lt skT) (by rw [hel]; exact ho.out.drewN 1) ((hrr.below hbg).drewN 1) (fun p hp => by
          obtain ⟨b2, o2, e2, hb2, _⟩ := hrr.at_ (by rw [hmk.1]; omega)
          rw [hp] at e2
          injection e2 with e2
          rw [e2]
          show b2 ≠ W0.heap.size
          omega) (by rw [hel, hmk.1]) hxr.1 hxr.2 (encTo_el ok n rows msg k) hmk.2
        rw [hel, hmk.1] at h
        exact h
      have HAT := hide hat
      have HST := Lib.hid (show encTo F n rows msg (k + 1) = addTo F (encTo F n rows msg k) (nthL rows k) x n by rw [encTo, hxx])
      have f0 := kTr.cell 0
      have f1 := kTr.cell 1
      have f2 := kTr.cell 2
      have f3 := kTr.cell 3
      have f4 := kTr.cell 4
      have hkr : k < rows.length := by omega
      clear hat hxx hmk hcm hrr hr1
      go_wp2_with fail
      go_still_tail 7, (by kernel_rfl)
      change wpList _ _ _ _ _ wr.drew
      go_wp2_with fail
      refine (unhide HAT).mono ?_
      rintro e w5 ⟨rfl, o5, g5⟩
      go_wp2_with fail
      go_roundw
      case rel =>
        refine ⟨k + 1, by go_num, by omega, ?_, hide (grown_trans_row (grown_trans_row hg.out (grown_drew1 wr _)) g5)⟩
        show Own _ _ _ _
        rw [HST.out]
        exact o5
      case measure => simp only [intOf]; omega
    · have hke : k = msg.length := by omega
      have HE := Lib.hid hke
      clear hke
      go_wp2_with fail
      go_ret
      exact ⟨_, rfl, by have h := ho.out; rw [HE.out] at h; exact h.mono (Nat.le_of_lt skT), hbw⟩
end Go.Proofs.Ytcblhjhabhjbkaa

/-
  Walk: the word of a message: the spec's. Printed by gen_encs.py.
-/
namespace Go.Proofs.Ytcblhjhabhjbkaa
open Go.RowKit
attribute [local go_sem ↓] Go.wp_at_zero Go.wp_at_succ
set_option maxRecDepth 100000 in
set_option maxHeartbeats 3200000 in
theorem l18Encode_any (g : Nat) (F : FD) (ra : Option Addr) (rc : Nat) (rows : List (List Int)) (b : Option Addr) (cb : Nat) (msg : List Int) (n : Nat) (w : World) (hF : PF w g F) (hG : F.Good) (hc3 : w.cell? ⟨g, 3, none⟩ = some (.slice ra rows.length rc)) (hx : RdS w ra rows) (hy : Rd w b msg) (h0 : 0 < rows.length) (hM : F.Mat n rows) (hn1 : 1 ≤ n) (hn : n ≤ 32) (hl : msg.length ≤ rows.length) (hm : ∀ x ∈ msg, 0 ≤ x ∧ x < F.n) : Calls Try.prog 41 #[.pointer (some ⟨g, 0, none⟩), .slice b msg.length cb] w fun e w' => ∃ v, e = .returned v ∧ Own w' w.heap.size v (encTo F n rows msg msg.length) ∧ Below w.heap.size w w' := by
  have ok := hG.ok
  obtain ⟨n2, n64⟩ := ok.n_bd
  have hxl := hx.len
  have hyl := hy.len
  have hglt : g < w.heap.size := World.block_lt_of_cell? w _ hc3
  have hmk := fun W => run_make_row' (P := Try.prog) 22 2 (.int .i64 0) 8 Try.underlying22 Try.info_i64 rfl .i64 .i64 n (by omega) (by omega) W
  obtain ⟨gb, ob, rfl, hgb, hcc⟩ := hx.at_ h0
  obtain ⟨ai0, ci0, h00, _⟩ := hcc 0 h0
  rw [Nat.add_zero, (Mat_nth hM h0).1] at h00
  have HCC := hide hcc
  have HY := hide hy
  have HMM := hide hM
  have HMS := hide hm
  have HF := hide hF
  clear hcc hx hy hM hm hF
  go_enter Try.func41, Try.ntmps41
  go_upto_region 2 with fail
  obtain ⟨W1, hW1⟩ : ∃ z, z = w.alloc (.cells (madeCells #[.int .i64 0] n) 2) := ⟨_, rfl⟩
  have oz : Own W1 w.heap.size (.slice (some ⟨w.heap.size, 0, none⟩) n n) (zeros n) := by rw [hW1]; exact Own.zeros w (Nat.le_refl _) (by omega)
  have bz : Below w.heap.size w W1 := by rw [hW1]; exact (Below.refl _ _).alloc (Nat.le_refl _) _
  rw [← hW1]
  clear hW1
  have OZ := Lib.hid oz
  clear oz hmk
  go_wp2_with fail
  go_loopw [6] (fun iv wr => ∃ i : Nat, iv = .int .i64 i ∧ i ≤ msg.length ∧ Hid (Own wr w.heap.size (.slice (some ⟨w.heap.size, 0, none⟩) n n) (encTo F n rows msg i)) ∧ Below w.heap.size w wr) (fun iv _ => msg.length - (intOf iv).toNat)
  case atStart => exact ⟨0, rfl, Nat.zero_le _, OZ, bz⟩
  case round =>
    obtain ⟨i, rfl, hi, ho, hb⟩ := hrel
    by_cases hil : i < msg.length
    · obtain ⟨gm, om, rfl, hgm, hcm⟩ := (unhide HY).at_ (by omega)
      have hc1 := hcm i hil
      have hxr := unhide HMS _ (nth_mem hil)
      have hir : i < rows.length := by omega
      obtain ⟨ai, ci, hr1, hrr⟩ := unhide HCC i hir
      have hmt := Mat_nth (unhide HMM) hir
      have hst : encTo F n rows msg (i + 1) = addTo F (encTo F n rows msg i) (nthL rows i) (nth msg i) n := rfl
      have hel := encTo_len F n rows msg i
      have hee := encTo_el ok n rows msg i
      obtain ⟨E, hE⟩ : ∃ E, E = encTo F n rows msg i := ⟨_, rfl⟩
      obtain ⟨x, hxx⟩ : ∃ x, x = nth msg i := ⟨_, rfl⟩
      obtain ⟨row, hrow⟩ : ∃ row, row = nthL rows i := ⟨_, rfl⟩
      rw [← hE] at ho hst hel hee
      rw [← hxx] at hc1 hxr hst
      rw [← hrow] at hr1 hrr hmt hst
      rw [hmt.1] at hr1
      obtain ⟨ge, oe, rfl, hge, hce⟩ := hrr.at_ (by rw [hmt.1]; omega)
      have HCE := hide hce
      have HST := Lib.hid hst
      have HMT := hide hmt
      have HEL := Lib.hid hel
      have HEE := hide hee
      clear hE hxx hrow hce hst hmt hel hee hrr hcm
      go_wp2_with fail
      go_loopw [7] (fun kv wr => ∃ k : Nat, kv = .int .i64 k ∧ k ≤ n ∧ Hid (Own wr w.heap.size (.slice (some ⟨w.heap.size, 0, none⟩) n n) (addTo F E row x k)) ∧ Below w.heap.size w wr) (fun kv _ => n - (intOf kv).toNat)
      case atStart => exact ⟨0, rfl, Nat.zero_le _, ho, hb⟩
      case round =>
        obtain ⟨k, rfl, hk, ho2, hb2⟩ := hrel
        by_cases hkn : k < n
        · have hsz := hb2.size
          have hal : (addTo F E row x k).length = n := by rw [addTo_len, HEL.out]
          have c36 := ho2.out.cell (j := k) (by rw [hal]; exact hkn)
          rw [addTo_nth F E row x k (by rw [HEL.out]; omega), if_neg (by omega)] at c36
          have f36 := ho2.out.frozen k
          have hG1 : w.heap.size < wr.heap.size := World.block_lt_of_cell? wr _ c36
          have hek := unhide HEE _ (nth_mem (k := k) (by rw [HEL.out]; exact hkn))
          have c53 := unhide HCE k (by rw [(unhide HMT).1]; exact hkn)
          have hyr := (unhide HMT).2 _ (nth_mem (k := k) (by rw [(unhide HMT).1]; exact hkn))
          have hsu : addTo F E row x (k + 1) = (addTo F E row x k).set k (F.add (nth E k) (F.mul x (nth row k))) := rfl
          obtain ⟨e, hE⟩ : ∃ e, e = nth E k := ⟨_, rfl⟩
          obtain ⟨y, hY⟩ : ∃ y, y = nth row k := ⟨_, rfl⟩
          rw [← hE] at c36 hek hsu
          rw [← hY] at c53 hyr hsu
          have hmul := fun W (h : Below wr.heap.size wr W) => (l03Mul_any g F x y W ((unhide HF).below (hb2.trans (h.mono hsz))) ok hxr.1 (by omega) hyr.1 (by omega)).mono fun e w' q => And.intro q.1 (Below.chain h q.2)
          change ∀ W, Below wr.heap.size wr W → Calls Try.prog 77 #[.pointer (some ⟨g, 0, none⟩), .int .i64 x, .int .i64 y] W fun e w' => e = .returned (.int .i64 (F.mul x y)) ∧ Below wr.heap.size wr w' at hmul
          have hMb := mul_bd ok x y
          obtain ⟨M, hM⟩ : ∃ M, M = F.mul x y := ⟨_, rfl⟩
          rw [← hM] at hmul hsu hMb
          have hsum := fun W (h : Below wr.heap.size wr W) => (l03Sum_any g F e M 1 W ((unhide HF).below (hb2.trans (h.mono hsz))) ok hek.1 (by omega) hMb.1 (by omega) (by omega) (by omega)).mono fun e w' q => And.intro q.1 (Below.chain h q.2)
          change ∀ W, Below wr.heap.size wr W → Calls Try.prog 58 #[.pointer (some ⟨g, 0, none⟩), .int .i64 e, .int .i64 M, .int .i64 1] W fun r w' => r = .returned (.int .i64 (F.add e M)) ∧ Below wr.heap.size wr w' at hsum
          obtain ⟨D, hD⟩ : ∃ D, D = F.add e M := ⟨_, rfl⟩
          rw [← hD] at hsum hsu
          have c43 := (hb2.cell (p := ⟨gm, om + i, none⟩) hgm).trans hc1
          have c47 := (hb2.cell (p := ⟨g, 3, none⟩) hglt).trans hc3
          have c50 := (hb2.cell (p := ⟨gb, ob + i, none⟩) hgb).trans hr1
          have c53 := (hb2.cell (p := ⟨ge, oe + k, none⟩) hge).trans c53
          have later : ∀ W, Below wr.heap.size wr W → (W.cell? ⟨w.heap.size, k, none⟩ = some (.int .i64 e) ∧ W.frozen? ⟨w.heap.size, k, none⟩ = false) := fun W h => ⟨(h.cell (p := ⟨w.heap.size, k, none⟩) hG1).trans c36, (ho2.out.below h (Nat.le_refl _)).frozen k⟩
          have LT := hide later
          have HMUL := hide hmul
          have HSUM := hide hsum
          have HSU := Lib.hid hsu
          clear hE hY hM hD hmul hsum hsu later hal hMb hek hyr
          go_upto_region 8 with fail
          go_region_with (first
            | (go_at_call 77; refine (unhide HMUL _ ?_).mono ?_; first | exact Below.refl _ _ | exact (Below.refl _ _).drew; rintro e W1 ⟨rfl, b1⟩; have d36 := (unhide LT _ b1).1)
            | (go_at_call 58; refine (unhide HSUM _ ?_).mono ?_; exact (by assumption); rintro e W2 ⟨rfl, b2⟩; have d37 := (unhide LT _ b2).1; have f37 := (unhide LT _ b2).2))
          all_goals
            go_wp2
            go_roundw
            case rel =>
              have hs := (ho2.out.below b2 (Nat.le_refl _)).set k D
              refine ⟨k + 1, by go_num, by omega, ?_, (hb2.trans (b2.mono hsz)).grown hs.2 (by have := b2.size; omega) (fun q hq => by injection hq; omega)⟩
              show Own _ _ _ _
              rw [HSU.out]
              exact hs.1
            case measure => simp only [intOf]; omega
        · have hke : k = n := by omega
          have HK := Lib.hid hke
          clear hke
          go_wp2_with fail
          go_roundw
          case rel =>
            refine ⟨i + 1, by go_num, by omega, ?_, hb2⟩
            show Own _ _ _ _
            rw [HST.out]
            have h := ho2.out
            rw [HK.out] at h
            exact h
          case measure => simp only [intOf]; omega
    · have hie : i = msg.length := by omega
      have HE := Lib.hid hie
      clear hie
      go_wp2_with fail
      go_ret
      exact ⟨_, rfl, by have h := ho.out; rw [HE.out] at h; exact h, hb⟩
end Go.Proofs.Ytcblhjhabhjbkaa

/-
  Walks: EncodeWord on both sides. Printed by gen_enc2.py.
-/
namespace Go.Proofs.Ytcblhjhabhjbkaa
open Go.RowKit
attribute [local go_sem ↓] Go.wp_at_zero Go.wp_at_succ

theorem elems_iff {q : Int} {xs : List Int} (h : elems q xs = true) : ∀ x ∈ xs, 0 ≤ x ∧ x < q := by
  exact elems_true.1 h
end Go.Proofs.Ytcblhjhabhjbkaa

