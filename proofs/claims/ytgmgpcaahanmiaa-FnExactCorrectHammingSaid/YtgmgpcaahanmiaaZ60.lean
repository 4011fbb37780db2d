/-
  Walks: the check columns of the specification; columns of rows.
-/
import Derived.BigQuiet
import Derived.Deep.DeepCutAuto
import Derived.Deep.DeepMust
import Derived.Deep.DrawnRows
import Derived.Deep.Draws
import Derived.Deep.OwnRows
import Derived.Deep.QuietTactic
import Derived.Deep.RegionHeld3
import Derived.IntWalk
import Derived.Laws.Rows
import Derived.Lib.Hide
import Derived.Maps.AppendAt
import Derived.StillTailTactics
import Derived.Test.YtgmgpcaahanmiaaProg
import Derived.WalkKit
import Derived.WalkLawsBesides
import Derived.WalkSpells
import Derived.Test.YtgmgpcaahanmiaaZ1
import Derived.Test.YtgmgpcaahanmiaaZ6
import Derived.Test.YtgmgpcaahanmiaaZ18
import Derived.Test.YtgmgpcaahanmiaaZ45
import Derived.Test.YtgmgpcaahanmiaaZ58
set_option linter.unusedVariables false
set_option linter.unusedSimpArgs false
namespace Go.Proofs.Ytgmgpcaahanmiaa
open Go.RowKit
attribute [local go_sem ↓] Go.wp_at_zero Go.wp_at_succ

/-- How many check columns there are, or -1 if there are too many. -/
def manyR (q R : Nat) : Int := if many q R ≤ 32 then (many q R : Int) else -1
set_option maxHeartbeats 800000 in
theorem l19Many_any (q R : Nat) (w : World) (h2 : 2 ≤ q) (h64 : q ≤ 64) (hR : R ≤ 4) :
    Calls Try.prog 98 #[.int .i64 q, .int .i64 R] w fun e w' => e = .returned (.int .i64 (manyR q R)) ∧ w = w' := by
  go_enter Try.func98, Try.ntmps98
  go_wp2
  go_loop [5, 6, 7] (fun mv pv iv => ∃ (i m p : Nat), iv = .int .i64 i ∧ mv = .int .i64 m ∧ pv = .int .i64 p ∧ i ≤ R ∧ m ≤ 32 ∧ p ≤ 16777216 ∧ Hid (m = many q i) ∧ Hid (p = q ^ i)) (fun _ _ iv => R - (intOf iv).toNat)
  case atStart => exact ⟨0, 0, 1, rfl, rfl, rfl, Nat.zero_le _, by omega, by omega, rfl, rfl⟩
  case round =>
    obtain ⟨i, m, p, rfl, rfl, rfl, hi, hm, hp, hM, hP⟩ := hrel
    by_cases hiR : i < R
    · have hst := many_pow q i
      rw [← hM.out, ← hP.out] at hst
      have hps := Nat.pow_succ q i
      rw [← hP.out] at hps
      have hp2 : q ^ (i + 1) ≤ 16777216 := pow_cap16 h2 h64 (by omega)
      have hle := many_le q (show i + 1 ≤ R by omega)
      have hpq : ((p : Int) * (q : Int)) = ((p * q : Nat) : Int) := by rw [Int.natCast_mul]
      rw [hps] at hp2
      have HST := Lib.hid hst
      have HPS := Lib.hid hps
      have HLE := Lib.hid hle
      obtain ⟨t, ht⟩ : ∃ t, t = p * q := ⟨_, rfl⟩
      rw [← ht] at hpq hp2
      have HT := Lib.hid ht
      clear hst hps hle ht hM hP
      by_cases h32 : m + p ≤ 32
      · go_wp2
        go_round
        case rel => exact ⟨i + 1, m + p, t, by go_num, by go_num, rfl, by omega, h32, hp2, show _ = _ by rw [HST.out], show _ = _ by rw [HPS.out, HT.out]⟩
        case measure => simp only [intOf]; omega
      · go_wp2
        go_ret
        refine ⟨ret_int ?_, rfl⟩
        rw [manyR, if_neg (by have := HST.out; have := HLE.out; omega)]
    · have hie : i = R := by omega
      have HE := Lib.hid hie
      clear hie
      go_wp2
      go_ret
      refine ⟨ret_int ?_, rfl⟩
      have h := hM.out
      rw [HE.out] at h
      rw [manyR, if_pos (by omega), h]

set_option maxRecDepth 100000 in
set_option maxHeartbeats 1600000 in
theorem l19Columns_any (q R : Nat) (w : World) (h2 : 2 ≤ q) (h64 : q ≤ 64) (hR2 : 2 ≤ R) (hR : R ≤ 4) (hm : many q R ≤ 32) :
    Calls Try.prog 80 #[.int .i64 q, .int .i64 R] w fun e w' => ∃ v, e = .returned v ∧ OwnS w' w.heap.size v (hcols q R) ∧ Below w.heap.size w w' := by
  have hQ := pow_cap16 h2 h64 (R := R) (by omega)
  have hcp : capTo (q : Int) LIM R = ((q ^ R : Nat) : Int) := by
    rw [capTo_pow (by omega) R (by rw [← Int.natCast_pow]; unfold LIM; omega), Int.natCast_pow]
  have hPW := fun W => l19Power_any q R W (by omega) (by omega) (by omega)
  rw [Int.toNat_natCast, powS_yes (by rw [hcp]; unfold LIM; omega), hcp] at hPW
  have hDG := fun (j : Nat) (hj : j < q ^ R) W => l16Digits_any j q R W (by omega) (by omega) (by omega) (by omega) (by omega)
  have hall : (colsUp q R (q ^ R)).length = many q R := colsUp_len h2 R
  have hhc : hcols q R = colsUp q R (q ^ R) := by rw [hcols, Int.toNat_natCast, Int.toNat_natCast]
  rw [hhc]
  have hpos : 1 ≤ q ^ R := Nat.pow_pos (by omega)
  obtain ⟨Q, hQQ⟩ : ∃ Q, Q = q ^ R := ⟨_, rfl⟩
  have hld : ∀ j, 1 ≤ j → j < Q → lead (hig j q R) ≠ 0 := fun j h1 h2' => lead_hig_pos (by omega) (by rw [← hQQ]; exact h2') h1
  have hmo : ∀ j, j ≤ Q → (colsUp q R j).length ≤ 32 := fun j hj => Nat.le_trans (by rw [← hall, ← hQQ]; exact colsUp_mono q R hj) hm
  rw [← hQQ] at hPW hDG hQ hpos ⊢
  have hDG := fun j hj W => (hDG j hj W)
  have HDG := hide hDG
  have HPW := hide hPW
  have HLD := hide hld
  have HMO := hide hmo
  clear hDG hPW hld hmo hall hQQ hcp hhc hm
  go_enter Try.func80, Try.ntmps80
  go_wp2_with fail
  go_loopw [5, 6] (fun v nv wr => ∃ N : Nat, nv = .int .i64 N ∧ 1 ≤ N ∧ N ≤ Q ∧ Hid (OwnS wr w.heap.size v (colsUp q R N)) ∧ Below w.heap.size w wr) (fun _ nv _ => Q - (intOf nv).toNat)
  case atStart => exact ⟨1, rfl, Nat.le_refl _, hpos, by show OwnS _ _ _ _; rw [colsUp_one]; exact OwnS.empty w (Nat.le_refl _), (Below.refl _ _).alloc (Nat.le_refl _) _⟩
  case round =>
    obtain ⟨N, rfl, hN1, hN, ho, hb⟩ := hrel
    rename World => wo
    have hsz := hb.size
    by_cases hNQ : N < Q
    · have hf := unhide HDG N hNQ
      obtain ⟨K, hK, hk2, hk3, hk4⟩ := lead_at (unhide HLD N hN1 hNQ)
      have hmo := unhide HMO N hN
      have hyes := @colsUp_yes q R N
      have hno := @colsUp_no q R N
      have hcl := hig_len N q R
      have hff : ∀ W, Calls Try.prog 164 #[.int .i64 N, .int .i64 q, .int .i64 R] W fun e w' => ∃ v, e = .returned v ∧ Own w' W.heap.size v (hig N q R) ∧ Below W.heap.size W w' := hf
      obtain ⟨xs, hxs⟩ : ∃ xs, xs = colsUp q R N := ⟨_, rfl⟩
      obtain ⟨cl, hcl'⟩ : ∃ cl, cl = hig N q R := ⟨_, rfl⟩
      rw [← hxs] at ho hmo hyes hno
      rw [← hcl'] at hff hK hk2 hk3 hk4 hyes hno hcl
      rw [hcl] at hK
      obtain ⟨vrows, hvr⟩ : ∃ vrows, vrows = u5 := ⟨_, rfl⟩
      rw [← hvr] at ho ⊢
      have HF := hide hff
      have HCL := Lib.hid hcl
      have HZ := hide hk4
      have HY := hide hyes
      have HNO := hide hno
      have HK2 := Lib.hid hk2
      clear hff hf hxs hcl' hcl hvr hk4 hyes hno hk2
      have hkz : (nth cl K == 0) = false := by simpa using hk3
      go_wp2_with fail
      refine (unhide HPW _).mono ?_
      rintro e w2 ⟨rfl, rfl⟩
      go_wp2_with fail
      refine (unhide HF _).mono ?_
      rintro e w3 ⟨v3, rfl, o3, b3⟩
      have z3 := b3.size
      have hb3 := Below.chain hb b3
      obtain ⟨g3, c3, rfl, hg3, hg3', hc3, hc3'⟩ := o3.at_len HCL.out (by omega)
      have hH := ho.out.toH.belw b3 (Nat.le_refl _)
      have HH := hide hH
      have HO3 := hide o3
      have hcell := fun j (hj : j < R) => o3.cell (j := j) (by rw [HCL.out]; exact hj)
      have HC := hide hcell
      clear hH hcell ho o3
      go_wp2_with fail
      go_loop [8] (fun kv => ∃ k : Nat, kv = .int .i64 k ∧ k ≤ K) (fun kv => K - (intOf kv).toNat)
      case atStart => exact ⟨0, rfl, Nat.zero_le _⟩
      case round =>
        obtain ⟨k, rfl, hkK⟩ := hrel
        by_cases hlt : k < K
        · have c1 := unhide HC k (by omega)
          rw [unhide HZ k hlt] at c1
          go_wp2
          go_round
          case rel => exact ⟨k + 1, by go_num, by omega⟩
          case measure => simp only [intOf]; omega
        · obtain rfl : k = K := by omega
          have c1 := unhide HC k hK
          obtain ⟨y, hy⟩ : ∃ y, y = nth cl k := ⟨_, rfl⟩
          rw [← hy] at c1 hkz
          have hyl : y = lead cl := by rw [hy, HK2.out]
          have hkz' : (y = 0) = False := by simpa using hkz
          by_cases hy1 : y = 1
          · subst hy1
            have hst := unhide HY hyl.symm
            have HST := Lib.hid hst
            have hlx : xs.length + 1 ≤ 1073741824 := by omega
            have o3 := unhide HO3
            have q3 := unhide HH
            clear hst hyl hy
            go_wp2_with (at_builtin; refine wpList_append_row rfl (.tmp 33) (.tmp 35) rfl (v := vrows) rfl (q3.belw ((Below.refl _ _).alloc (Nat.le_refl _) _) (by omega)) _ rfl ((Blk.new w3 22 #[.slice (some ⟨g3, 0, none⟩) R c3] rfl).cell 0) (o3.alloc _) hsz (by simp; omega) hlx ?_; intro v2 w4 o4 g4 _)
            go_roundw
            case rel =>
              refine ⟨N + 1, by go_num, by omega, by omega, ?_, Below.stepS (hb3.alloc (by omega) _) g4 (q3.belw ((Below.refl _ _).alloc (Nat.le_refl _) _) (by omega)).own (Nat.le_refl _) (by simp; omega)⟩
              show OwnS _ _ _ _
              rw [HST.out]
              exact o4
            case measure => simp only [intOf]; omega
          · have hst := unhide HNO (fun e => hy1 (by rw [hyl, e]))
            have HST := Lib.hid hst
            have q3 := unhide HH
            clear hst hyl hy
            go_wp2_with fail
            go_roundw
            case rel =>
              refine ⟨N + 1, by go_num, by omega, by omega, ?_, hb3⟩
              show OwnS _ _ _ _
              rw [HST.out]
              exact q3.own
            case measure => simp only [intOf]; omega
    · have hke : N = Q := by omega
      have HE := Lib.hid hke
      clear hke
      go_wp2_with fail
      refine (unhide HPW _).mono ?_
      rintro e w2 ⟨rfl, rfl⟩
      go_wp2_with fail
      go_ret
      exact ⟨_, rfl, by have o := ho.out; rw [HE.out] at o; exact o, hb⟩

theorem manyR_pos {q R : Nat} (hR : 1 ≤ R) : decide (0 < manyR q R) = decide (many q R ≤ 32) := by
  obtain ⟨k, rfl⟩ : ∃ k, R = k + 1 := ⟨R - 1, by omega⟩
  have h1 : 1 ≤ many q (k + 1) := by rw [many]; omega
  rw [manyR]
  by_cases h : many q (k + 1) ≤ 32
  · rw [if_pos h]; simp [h]; omega
  · rw [if_neg h]; simp [h]
set_option maxHeartbeats 800000 in
theorem l19Ask_any (q r : Int) (w : World) : Calls Try.prog 78 #[.int .i64 q, .int .i64 r] w fun e w' => e = .returned (.bool (isField q && colsOk q r)) ∧ w = w' := by
  have hF := l19Field_any q w
  have hI := l00In_any r 2 4 w
  rw [colsOk]
  by_cases hf : isField q = true
  · obtain ⟨h2, h64, _⟩ := isField_size hf
    by_cases hi : inB r 2 4 = true
    · obtain ⟨hr2, hr4⟩ := inB_true.1 hi
      obtain ⟨R, rfl⟩ := Int.eq_ofNat_of_zero_le (show 0 ≤ r by omega)
      obtain ⟨Q, rfl⟩ := Int.eq_ofNat_of_zero_le (show 0 ≤ q by omega)
      have hM := l19Many_any Q R w (by omega) (by omega) (by omega)
      have hp := manyR_pos (q := Q) (R := R) (by omega)
      rw [hf] at hF ⊢
      rw [hi] at hI ⊢
      rw [Int.toNat_natCast, Int.toNat_natCast, ← hp, Bool.true_and, Bool.true_and]
      generalize manyR Q R = M at hM
      have HM := hide hM
      have HF := hide hF
      have HI := hide hI
      clear hM hF hI hp hf hi
      go_enter Try.func78, Try.ntmps78
      go_wp2_with fail
      refine (unhide HF).mono ?_
      rintro e w1 ⟨rfl, rfl⟩
      go_wp2_with fail
      refine (unhide HI).mono ?_
      rintro e w1 ⟨rfl, rfl⟩
      go_wp2_with fail
      refine (unhide HM).mono ?_
      rintro e w1 ⟨rfl, rfl⟩
      go_wp2_with fail
      go_ret
      exact ⟨rfl, rfl⟩
    · have hi' : inB r 2 4 = false := by simpa using hi
      rw [hi'] at hI ⊢
      rw [hf] at hF ⊢
      have HF := hide hF
      have HI := hide hI
      clear hF hI hf hi hi'
      go_enter Try.func78, Try.ntmps78
      go_wp2_with fail
      refine (unhide HF).mono ?_
      rintro e w1 ⟨rfl, rfl⟩
      go_wp2_with fail
      refine (unhide HI).mono ?_
      rintro e w1 ⟨rfl, rfl⟩
      go_wp2_with fail
      go_ret
      exact ⟨rfl, rfl⟩
  · have hf' : isField q = false := by simpa using hf
    rw [hf'] at hF ⊢
    have HF := hide hF
    clear hF hf hf' hI
    go_enter Try.func78, Try.ntmps78
    go_wp2_with fail
    refine (unhide HF).mono ?_
    rintro e w1 ⟨rfl, rfl⟩
    go_wp2_with fail
    go_ret
    exact ⟨rfl, rfl⟩
end Go.Proofs.Ytgmgpcaahanmiaa

