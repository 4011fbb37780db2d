/-
  Walks: the check columns, on both sides.
-/
import Derived.BigQuiet
import Derived.BigRegion
import Derived.ChangeOld
import Derived.Deep.DeepCutAuto
import Derived.Deep.DeepMust
import Derived.Deep.DrawnRows
import Derived.Deep.Draws
import Derived.Deep.OwnRows
import Derived.Deep.QuietTactic
import Derived.Deep.RegionHeld3
import Derived.Deep.Slices
import Derived.IntWalk
import Derived.Laws.Rows
import Derived.Lib.Hide
import Derived.Maps.AppendAt
import Derived.OpenShut
import Derived.OwnWalk
import Derived.ProofKit
import Derived.ShutString
import Derived.StillTailTactics
import Derived.Test.YtgmgpcaahanmiaaProg
import Derived.Test.YtgmgpcaahanmiaaRows
import Derived.WalkKit
import Derived.WalkLawsBesides
import Derived.WalkSpells
import Derived.Test.YtgmgpcaahanmiaaZ1
import Derived.Test.YtgmgpcaahanmiaaZ6
import Derived.Test.YtgmgpcaahanmiaaZ18
import Derived.Test.YtgmgpcaahanmiaaZ20
import Derived.Test.YtgmgpcaahanmiaaZ29
import Derived.Test.YtgmgpcaahanmiaaZ58
set_option linter.unusedVariables false
set_option linter.unusedSimpArgs false
namespace Go.Proofs.Ytgmgpcaahanmiaa
open Go.RowKit
attribute [local go_sem ↓] Go.wp_at_zero Go.wp_at_succ

theorem hamNZ_any (x : Int) (w : World) : Calls Try.prog 216 #[.int .i64 x] w fun e w' => e = .returned (.bool (x != 0)) ∧ Below w.heap.size w w' := by
  go_enter Try.func216, Try.ntmps216
  go_wp2
  go_ret
  exact ⟨rfl, Below.refl _ _⟩
theorem ent_hamNZ : ∀ (args : Array Value) (w : World), (callFunc 216 args).run Try.prog w = .ok (.enter 216 args) w := fun _ _ => by kernel_rfl

set_option maxRecDepth 100000 in
set_option maxHeartbeats 1600000 in
theorem checkColumns_any (q : Nat) (r : Int) (w : World) (h2 : 2 ≤ q) (h64 : q ≤ 64) :
    Calls Try.prog 170 #[.int .i64 q, .int .i64 r] w fun e w' => ∃ v, e = .returned (.tuple #[v, .bool (colsOk q r)]) ∧ OwnS w' w.heap.size v (if colsOk q r = true then hcols q r else []) ∧ Below w.heap.size w w' := by
  have hin := within_any r 2 4 w
  by_cases hr : inB r 2 4 = true
  · obtain ⟨hr2, hr4⟩ := inB_true.1 hr
    obtain ⟨R, rfl⟩ := Int.eq_ofNat_of_zero_le (show 0 ≤ r by omega)
    have hQ := pow_cap16 h2 h64 (R := R) (by omega)
    have hcap : capTo (q : Int) 16777216 R = ((q ^ R : Nat) : Int) := by
      rw [capTo_pow (by omega) R (by rw [← Int.natCast_pow]; omega), Int.natCast_pow]
    have hPW := fun W => powerUpTo_any q R 16777216 W (by omega) (by omega) (by omega) (by omega) (by omega)
    rw [Int.toNat_natCast, hcap] at hPW
    have hHF := fun (j : Nat) (hj : j < q ^ R) W => highFirst_any j q R W (by omega) (by omega) (by omega) (by omega) (by omega)
    have hall : (colsUp q R (q ^ R)).length = many q R := colsUp_len h2 R
    have hok : colsOk q R = decide (many q R ≤ 32) := by rw [colsOk, hr, Int.toNat_natCast, Int.toNat_natCast]; rfl
    have hhc : hcols q R = colsUp q R (q ^ R) := by rw [hcols, Int.toNat_natCast, Int.toNat_natCast]
    rw [hok, hhc]
    rw [hr] at hin
    have hpos : 1 ≤ q ^ R := Nat.pow_pos (by omega)
    obtain ⟨Q, hQQ⟩ : ∃ Q, Q = q ^ R := ⟨_, rfl⟩
    have hld : ∀ j, 1 ≤ j → j < Q → lead (hig j q R) ≠ 0 := fun j h1 h2' => lead_hig_pos (by omega) (by rw [← hQQ]; exact h2') h1
    have hmo : ∀ j, j ≤ Q → (colsUp q R j).length ≤ many q R := fun j hj => by rw [← hall, ← hQQ]; exact colsUp_mono q R hj
    rw [← hQQ] at hPW hHF hQ hpos hall ⊢
    obtain ⟨B, hB⟩ : ∃ B, B = decide (many q R ≤ 32) := ⟨_, rfl⟩
    rw [← hB]
    obtain ⟨L, hL⟩ : ∃ L, L = (if B = true then colsUp q R Q else []) := ⟨_, rfl⟩
    rw [← hL]
    have HBB := Lib.hid hB
    have HLL := Lib.hid hL
    have HHF := hide hHF
    have HPW := hide hPW
    have HLD := hide hld
    have HMO := hide hmo
    have HALL := Lib.hid hall
    have HIN := hide hin
    clear hHF hPW hld hmo hall hin hQQ hcap hok hhc hr hB hL
    go_enter Try.func170, Try.ntmps170
    go_wp2_with fail
    refine (unhide HIN).mono ?_
    rintro e w1 ⟨rfl, rfl⟩
    go_wp2_with fail
    go_loopw [6, 7] (fun v nv wr => ∃ N : Nat, nv = .int .i64 N ∧ 1 ≤ N ∧ N ≤ Q ∧ Hid (OwnS wr w.heap.size v (colsUp q R N)) ∧ Hid ((colsUp q R N).length ≤ 32) ∧ Below w.heap.size w wr) (fun _ nv _ => Q - (intOf nv).toNat)
    case atStart => exact ⟨1, rfl, Nat.le_refl _, hpos, by show OwnS _ _ _ _; rw [colsUp_one]; exact OwnS.nil _ _, by show _ ≤ _; rw [colsUp_one]; simp, Below.refl _ _⟩
    case round =>
      obtain ⟨N, rfl, hN1, hN, ho, hl, hb⟩ := hrel
      have hsz := hb.size
      obtain ⟨av, cv, ev, _⟩ := ho.out.form
      subst ev
      by_cases hNQ : N < Q
      · have hf := unhide HHF N hNQ
        obtain ⟨k, hk, hk2, hk3, hk4, hfo⟩ := lead_first (unhide HLD N hN1 hNQ)
        have hl1 := hl.out
        have hmo := unhide HMO (N + 1) (by omega)
        have hyes := @colsUp_yes q R N
        have hno := @colsUp_no q R N
        have hcl := hig_len N q R
        obtain ⟨xs, hxs⟩ : ∃ xs, xs = colsUp q R N := ⟨_, rfl⟩
        obtain ⟨cl, hcl'⟩ : ∃ cl, cl = hig N q R := ⟨_, rfl⟩
        rw [← hxs] at ho hl1 hyes hno
        rw [← hcl'] at hf hk hk2 hk4 hfo hyes hno hcl
        have hIX := fun a c W (h : Rd W a cl) => idxI0 216 (fun x => x != 0) a c cl W ent_hamNZ h (fun j W' _ _ => hamNZ_any _ W')
        rw [hfo] at hIX
        have HF := hide hf
        have HIX := hide hIX
        have HXS := Lib.hid hxs
        have HCL := Lib.hid hcl
        clear hf hIX hk3 hk4 hfo hxs hcl' hl
        rw [← HXS.out]
        go_wp2_with fail
        refine (unhide HPW _).mono ?_
        rintro e w2 ⟨rfl, rfl⟩
        go_wp2_with fail
        refine (unhide HF _).mono ?_
        rintro e w3 ⟨v3, rfl, o3, b3⟩
        obtain ⟨g3, c3, rfl, hg3, hg3', hc3, hc3'⟩ := o3.at_len HCL.out (by omega)
        have hix := unhide HIX (some ⟨g3, 0, none⟩) c3 w3 o3.rd
        rw [HCL.out] at hix hk
        have HI := hide hix
        clear hix
        go_wp2_with fail
        refine (unhide HI).mono ?_
        rintro e w4 ⟨rfl, b4⟩
        have z3 := b3.size
        have z4 := b4.size
        have o4 := o3.below b4 (Nat.le_refl _)
        have hc4 := o4.cell (j := k) (by rw [HCL.out]; exact hk)
        have b34 := Below.chain b3 b4
        have hb4 := Below.chain hb b34
        rw [hk2] at hc4
        by_cases hld1 : lead cl = 1
        · rw [hld1] at hc4
          have hst := hyes hld1
          have HST := Lib.hid hst
          have hH := ho.out.toH.belw b34 (Nat.le_refl _)
          rw [hst, List.length_append, List.length_singleton] at hmo
          have hlx : xs.length + 1 ≤ 1073741824 := by omega
          clear hst hyes hno hld1 hk2
          by_cases h32 : 32 ≤ xs.length
          · have hbad : decide (many q R ≤ 32) = false := by rw [decide_eq_false_iff_not]; omega
            have e1 : B = false := by rw [HBB.out]; exact hbad
            have e2 : L = [] := by rw [HLL.out, e1]; rfl
            have E1 := Lib.hid e1
            have E2 := Lib.hid e2
            clear hbad e1 e2
            go_wp2_with (at_builtin; refine wpList_append_row rfl (.tmp 29) (.tmp 31) rfl (v := .slice av xs.length cv) rfl (hH.belw ((Below.refl _ _).alloc (Nat.le_refl _) _) (by omega)) _ rfl ((Blk.new w4 22 #[.slice (some ⟨g3, 0, none⟩) R c3] rfl).cell 0) (o4.alloc _) hsz (by simp; omega) hlx ?_; intro v5 w5 o5 g5 _; obtain ⟨a5, c5, e5, _⟩ := o5.form; rw [List.length_append, List.length_singleton] at e5; subst e5)
            go_ret2
            rw [E1.out, E2.out]
            exact ⟨_, rfl, OwnS.nil _ _, Below.stepS (hb4.alloc (by omega) _) g5 (hH.belw ((Below.refl _ _).alloc (Nat.le_refl _) _) (by omega)).own (Nat.le_refl _) (by simp; omega)⟩
          · have hl31 : xs.length ≤ 31 := by omega
            go_wp2_with (at_builtin; refine wpList_append_row rfl (.tmp 29) (.tmp 31) rfl (v := .slice av xs.length cv) rfl (hH.belw ((Below.refl _ _).alloc (Nat.le_refl _) _) (by omega)) _ rfl ((Blk.new w4 22 #[.slice (some ⟨g3, 0, none⟩) R c3] rfl).cell 0) (o4.alloc _) hsz (by simp; omega) hlx ?_; intro v5 w5 o5 g5 _; obtain ⟨a5, c5, e5, _⟩ := o5.form; rw [List.length_append, List.length_singleton] at e5; subst e5)
            go_roundw
            case rel =>
              refine ⟨N + 1, by go_num, by omega, by omega, ?_, ?_, Below.stepS (hb4.alloc (by omega) _) g5 (hH.belw ((Below.refl _ _).alloc (Nat.le_refl _) _) (by omega)).own (Nat.le_refl _) (by simp; omega)⟩
              · show OwnS _ _ _ _
                rw [HST.out]
                exact o5
              · show _ ≤ _
                rw [HST.out, List.length_append, List.length_singleton]
                omega
            case measure => simp only [intOf]; omega
        · have hst := hno hld1
          have HST := Lib.hid hst
          have hH := ho.out.toH.belw b34 (Nat.le_refl _)
          have hne : (lead cl == 1) = false := by simpa using hld1
          obtain ⟨y, hy⟩ : ∃ y, y = lead cl := ⟨_, rfl⟩
          rw [← hy] at hc4 hne hld1
          clear hst hyes hno hk2 hy
          go_wp2_with fail
          go_roundw
          case rel =>
            refine ⟨N + 1, by go_num, by omega, by omega, ?_, ?_, hb4⟩
            · show OwnS _ _ _ _
              rw [HST.out]
              exact hH.own
            · show _ ≤ _
              rw [HST.out]
              exact hl1
          case measure => simp only [intOf]; omega
      · have hNe : N = Q := by omega
        have hgood : decide (many q R ≤ 32) = true := by rw [decide_eq_true_eq, ← HALL.out, ← hNe]; exact hl.out
        have o := ho.out
        rw [hNe] at o ⊢
        have e1 : B = true := by rw [HBB.out]; exact hgood
        have e2 : L = colsUp q R Q := by rw [HLL.out, e1]; rfl
        have E1 := Lib.hid e1
        have E2 := Lib.hid e2
        have HE := Lib.hid hNe
        clear hgood hNe ho hl e1 e2
        go_wp2_with fail
        refine (unhide HPW _).mono ?_
        rintro e w2 ⟨rfl, rfl⟩
        have HNQ : ¬ N < Q := hNQ
        go_wp2_with fail
        go_ret2
        rw [E1.out, E2.out]
        exact ⟨_, rfl, o, hb⟩
  · have hn : inB r 2 4 = false := by simpa using hr
    have hok : colsOk q r = false := by rw [colsOk, hn]; rfl
    rw [hn] at hin
    rw [hok]
    have HIN := hide hin
    clear hin hn hr hok
    go_enter Try.func170, Try.ntmps170
    go_wp2_with fail
    refine (unhide HIN).mono ?_
    rintro e w1 ⟨rfl, rfl⟩
    go_wp2_with fail
    go_ret2
    exact ⟨_, rfl, OwnS.nil _ _, Below.refl _ _⟩
end Go.Proofs.Ytgmgpcaahanmiaa

