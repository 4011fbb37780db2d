/-
  Walks: DecodePolynomial, on both sides. Printed by gen_dec.py.
-/
import Derived.BigQuiet
import Derived.BigRegion
import Derived.ChangeOld
import Derived.Deep.DeepCutAuto
import Derived.Deep.DeepMust
import Derived.Deep.DrawnRows
import Derived.Deep.Draws
import Derived.Deep.OwnRows
import Derived.Deep.QuietTactic
import Derived.Deep.RegionHeld3
import Derived.Deep.Slices
import Derived.IntWalk
import Derived.Laws.Rows
import Derived.Lib.Hide
import Derived.Maps.AppendAt
import Derived.OpenShut
import Derived.OwnWalk
import Derived.ProofKit
import Derived.ShutString
import Derived.StillTailTactics
import Derived.Test.YtgmgpcaahanmiaaProg
import Derived.Test.YtgmgpcaahanmiaaRows
import Derived.WalkKit
import Derived.WalkLawsBesides
import Derived.WalkSpells
import Derived.Test.YtgmgpcaahanmiaaZ15
import Derived.Test.YtgmgpcaahanmiaaZ18
set_option linter.unusedVariables false
set_option linter.unusedSimpArgs false
namespace Go.Proofs.Ytgmgpcaahanmiaa
open Go.RowKit
attribute [local go_sem ↓] Go.wp_at_zero Go.wp_at_succ

/-- A message of K elements whose word is near to w. -/
def Near (F : FD) (K N : Nat) (w : List Int) (m : List Int) : Prop := m.length = K ∧ (∀ c ∈ m, 0 ≤ c ∧ c < F.n) ∧ 2 * apartTo (vals F m N) w N ≤ N - K
open Classical in
noncomputable def dec (F : FD) (K N : Nat) (w : List Int) : List Int × Int := if h : ∃ m, Near F K N w m then (Classical.choose h, 0) else ([], 3)
theorem dec_yes {F : FD} (hG : F.Good) {K N : Nat} (hN : N ≤ F.n) (hKN : K ≤ N) {w m : List Int} (h : Near F K N w m) : dec F K N w = (m, 0) := by
  have ex : ∃ m, Near F K N w m := ⟨m, h⟩
  rw [dec, dif_pos ex]
  have hc := Classical.choose_spec ex
  have ok := hG.ok
  have e := vals_unique hG hN hKN hc.1 h.1 (fun c hc' => (el_n ok).2 (hc.2.1 c hc')) (fun c hc' => (el_n ok).2 (h.2.1 c hc')) hc.2.2 h.2.2
  rw [e]
theorem dec_no {F : FD} {K N : Nat} {w : List Int} (h : ∀ m, ¬ Near F K N w m) : dec F K N w = ([], 3) := by
  rw [dec, dif_neg]
  rintro ⟨m, hm⟩
  exact h m hm
theorem dig_mem {F : FD} (ok : F.Ok) (i K : Nat) : (dig i F.n K).length = K ∧ ∀ c ∈ dig i F.n K, 0 ≤ c ∧ c < F.n := ⟨dig_len _ _ _, dig_range (by have := ok.n_bd; omega) K⟩
/-- Every message is met. -/
theorem all_dig {F : FD} (ok : F.Ok) {K : Nat} {m : List Int} (hl : m.length = K) (he : ∀ c ∈ m, 0 ≤ c ∧ c < F.n) : ∃ i : Nat, (i : Int) < (F.n : Int) ^ K ∧ dig i F.n K = m := by
  have hn : (0 : Int) < F.n := by have := ok.n_bd; omega
  have h := num_bound hn he
  rw [hl] at h
  refine ⟨(num F.n m).toNat, by omega, ?_⟩
  rw [show (((num F.n m).toNat : Nat) : Int) = num F.n m by omega]
  exact dig_num hn he hl
noncomputable def dpRes (q k : Int) (w : List Int) : List Int × Int :=
  if rsCode q k w.length = 0 then (if elems q w = true then dec (fdOf q) k.toNat w.length w else ([], 1)) else ([], rsCode q k w.length)
theorem rs_nq {q k n : Int} (h : rsCode q k n = 0) : n ≤ q := by
  unfold rsCode at h
  by_cases hl : lenOk q n = true
  · rw [lenOk, Bool.and_eq_true, inB_true] at hl
    omega
  · rw [if_neg hl] at h; omega
theorem half_iff {a N K : Nat} (h : K ≤ N) : (a : Int) ≤ ((N : Int) - (K : Int)) / 2 ↔ 2 * a ≤ N - K := by omega
theorem cap_exact {b l : Int} : ∀ {k : Nat}, capTo b l k ≤ l → capTo b l k = b ^ k
  | 0, _ => by simp [capTo]
  | k + 1, hk => by
    by_cases hc : capTo b l k ≤ l
    · rw [capTo_go hc, cap_exact hc, Int.pow_succ]
    · rw [capTo_stop hc (k + 1) (by omega)] at hk; exact absurd hk hc
set_option maxRecDepth 100000 in
set_option maxHeartbeats 1600000 in
theorem implDP_any (q k : Int) (b : Option Addr) (cb : Nat) (wd : List Int) (w : World) (hx : Rd w b wd) (e0 : I64 k) : Calls Try.prog 30 #[.int .i64 q, .int .i64 k, .slice b wd.length cb] w (ResL w (dpRes q k wd)) := by
  have hxl := hx.len
  have hL := polynomialCode_any q k wd.length w e0
  unfold dpRes
  obtain ⟨c, hc⟩ : ∃ c, rsCode q k wd.length = c := ⟨_, rfl⟩
  rw [hc] at hL ⊢
  by_cases h0 : c = 0
  ·
    subst h0
    obtain ⟨hf, h2, h64, hn1, hn2, hk1, hk2, hkn, hcap⟩ := rsCode_zero hc
    rw [if_pos rfl]
    have hG := fdOf_good hf
    have ok := hG.ok
    have hq := (fdOf_ok hf).2.1
    have hnq := rs_nq hc
    rw [ok.n_eq] at hq
    obtain ⟨K, rfl⟩ := Int.eq_ofNat_of_zero_le (show 0 ≤ k by omega)
    rw [Int.toNat_natCast] at hcap ⊢
    by_cases he : elems q wd = true
    ·
      rw [if_pos he]
      have hE := fun W h => areIn_any q b cb wd W (by omega) h64 h
      rw [he] at hE
      generalize fdOf q = F at hL hG ok hq ⊢
      subst hq
      obtain ⟨n2, n64⟩ := ok.n_bd
      have hC := fun W => powerUpTo_any F.n K 4096 W (by omega) (by omega) (by omega) (by omega) (by omega)
      rw [Int.toNat_natCast] at hC
      obtain ⟨Q, hQ⟩ : ∃ Q, Q = capTo (F.n : Int) 4096 K := ⟨_, rfl⟩
      rw [← hQ] at hC hcap
      have hQ1 : 1 ≤ Q := by rw [hQ]; exact capTo_pos (by omega) K
      have HQ := Lib.hid hQ
      have HE := hide hE
      have HL := hide hL
      have HC := hide hC
      clear hL hE hC hQ hc hf he
      go_enter Try.func30, Try.ntmps30
      go_wp2_with fail
      refine (size_any _ _ _ _).mono ?_
      rintro e w1 ⟨rfl, rfl⟩
      go_wp2_with fail
      refine (unhide HL).mono ?_
      rintro e w1 ⟨v1, rfl, o1, b1⟩
      rw [if_pos rfl, if_pos rfl]
      rw [if_pos rfl] at o1
      obtain ⟨a1, c1, rfl, r1, _⟩ := o1.form
      obtain ⟨W1, hHF⟩ : ∃ z, z = w1.alloc (.cells #[.int .i64 F.p, .int .i64 F.k, .slice a1 F.poly.length c1] 34) := ⟨_, rfl⟩
      have bF : Below w1.heap.size w1 W1 := by rw [hHF]; exact (Below.refl _ _).alloc (Nat.le_refl _) _
      have kF : Blk W1 w1.heap.size 34 #[.int .i64 F.p, .int .i64 F.k, .slice a1 F.poly.length c1] := by rw [hHF]; exact Blk.new _ _ _ rfl
      have skF : w1.heap.size < W1.heap.size := kF.lt
      have HF := Lib.hid hHF
      clear hHF
      have hR1 := r1.below bF
      have hb1 := Below.chain b1 bF
      have hx1 := hx.below hb1
      clear r1 o1 b1 bF
      go_upto_region 3 with fail
      rw [← HF.out]
      go_wp2_with fail
      refine (unhide HE _ hx1).mono ?_
      rintro e w2 ⟨rfl, b2⟩
      have hb2 := Below.chain hb1 b2
      have hx2 := hx1.below b2
      have hR2 := hR1.below b2
      have kF2 := kF.below b2 kF.lt
      clear hx1 hR1 kF b2 hb1
      go_wp2_with fail
      refine (unhide HC _).mono ?_
      rintro e w3 ⟨rfl, rfl⟩
      have z1 := hb2.size
      go_wp2_with fail
      go_loopw [32] (fun iv wr => ∃ i : Nat, iv = .int .i64 i ∧ (i : Int) ≤ Q ∧ Hid (∀ j : Nat, j < i → ¬ Near F K wd.length wd (dig j F.n K)) ∧ Below w2.heap.size w2 wr) (fun iv _ => (Q - intOf iv).toNat)
      case atStart => exact ⟨0, rfl, by omega, fun j hj => by omega, Below.refl _ _⟩
      case round =>
        obtain ⟨i, rfl, hi, hno, hb⟩ := hrel
        have hsz := hb.size
        by_cases hlt : (i : Int) < Q
        ·
          go_wp2_with fail
          refine (digitsOf_any i F.n K _ (by omega) (by omega) (by omega) (by omega) (by omega)).mono ?_
          rintro e w4 ⟨v4, rfl, o4, b4⟩
          obtain ⟨a4, c4, rfl, r4, _⟩ := o4.form
          obtain ⟨hml, hme⟩ := dig_mem (F := F) ok i K
          have hmem : (dig i F.n K).length = K ∧ ∀ c ∈ dig i F.n K, 0 ≤ c ∧ c < F.n := ⟨hml, hme⟩
          obtain ⟨msg, hmsg⟩ : ∃ msg, msg = dig i F.n K := ⟨_, rfl⟩
          rw [← hmsg] at hmem o4 r4 ⊢
          have HMSG := Lib.hid hmsg
          have hb4 := hb.trans (b4.mono hsz)
          have s4 := b4.size
          have hV := polynomialWord_any F a1 c1 a4 c4 msg wd.length w4 (hR2.below hb4) ok r4 (by omega) (by rw [hmem.1]; omega) (fun c hc => by have := hmem.2 c hc; omega)
          have kF4 := kF2.below hb4 kF2.lt
          have e0 := kF4.cell 0
          have e1 := kF4.cell 1
          have e2 := kF4.cell 2
          have HV := hide hV
          have HMEM := hide hmem
          have HML := Lib.hid hmem.1
          clear hV hmem hmsg hml hme
          go_wp2_with fail
          refine (unhide HV).mono ?_
          rintro e w5 ⟨v5, rfl, o5, b5⟩
          clear e0 e1 e2
          obtain ⟨a5, c5, rfl, r5, _⟩ := o5.form
          have hb5 := hb4.trans (b5.mono (by omega))
          have s5 := b5.size
          have hA := distanceBetween_any a5 b c5 cb (vals F msg wd.length) wd w5 r5 (hx2.below hb5) (vals_len _ _ _)
          rw [vals_len] at hA
          obtain ⟨d, hd⟩ : ∃ d, d = apartTo (vals F msg wd.length) wd wd.length := ⟨_, rfl⟩
          rw [← hd] at hA
          have hdl : d ≤ wd.length := by rw [hd]; exact apartTo_le _ _ _
          have HA := hide hA
          have HD := Lib.hid hd
          have HVL := Lib.hid (vals_len F msg wd.length)
          have o4' := o4.below b5 (Nat.le_refl _)
          clear hA hd
          go_wp2_with fail
          rw [HVL.out]
          refine (unhide HA).mono ?_
          rintro e w6 ⟨rfl, b6⟩
          have hb6 := hb5.trans (b6.mono (by omega))
          have o4z := o4'.below b6 (Nat.le_refl _)
          by_cases hnr : (d : Int) ≤ ((wd.length : Int) - (K : Int)) / 2
          ·
            have hnear : Near F K wd.length wd msg := ⟨(unhide HMEM).1, (unhide HMEM).2, by rw [← HD.out]; exact (half_iff (by omega)).1 hnr⟩
            have HR := Lib.hid (dec_yes hG (by omega) (by omega) hnear)
            go_wp2_with fail
            go_ret2
            show ResL w (dec F K wd.length wd) _ _
            rw [HR.out]
            exact ⟨_, rfl, o4z.mono (by omega), hb2.trans (hb6.mono z1)⟩
          ·
            have hfar : ¬ Near F K wd.length wd msg := fun h => hnr ((half_iff (by omega)).2 (by rw [HD.out]; exact h.2.2))
            have HFAR := hide hfar
            clear hfar
            go_wp2_with fail
            go_roundw
            case rel =>
              refine ⟨i + 1, by go_num, by omega, fun j hj => ?_, hb6⟩
              rcases Nat.lt_succ_iff_lt_or_eq.1 hj with h | rfl
              · exact hno.out j h
              · rw [← HMSG.out]; exact unhide HFAR
            case measure => simp only [intOf]; omega
        ·
          have hall : ∀ m, ¬ Near F K wd.length wd m := fun m hm => by
            obtain ⟨j, hj, e⟩ := all_dig (K := K) ok hm.1 hm.2.1
            have hcq : Q = (F.n : Int) ^ K := by
              rw [HQ.out]
              have := cap_exact (b := (F.n : Int)) (l := 4096) (k := K) (by rw [← HQ.out]; omega)
              exact this
            rw [← hcq] at hj
            have h := hno.out j (by omega)
            rw [e] at h
            exact h hm
          have HR := Lib.hid (dec_no hall)
          clear hall
          go_wp2_with fail
          go_ret2
          show ResL w (dec F K wd.length wd) _ _
          rw [HR.out]
          exact ⟨_, rfl, Own.nil _ _, hb2.trans (hb.mono z1)⟩
    ·
      have he' : elems q wd = false := by simpa using he
      rw [if_neg he]
      have hE := fun W h => areIn_any q b cb wd W (by omega) h64 h
      rw [he'] at hE
      generalize fdOf q = F at hL hG ok hq ⊢
      have HE := hide hE
      have HL := hide hL
      clear hE hL he he' hc hf hq
      go_enter Try.func30, Try.ntmps30
      go_wp2_with fail
      refine (size_any _ _ _ _).mono ?_
      rintro e w1 ⟨rfl, rfl⟩
      go_wp2_with fail
      refine (unhide HL).mono ?_
      rintro e w1 ⟨v1, rfl, o1, b1⟩
      rw [if_pos rfl, if_pos rfl]
      rw [if_pos rfl] at o1
      obtain ⟨a1, c1, rfl, r1, _⟩ := o1.form
      obtain ⟨W1, hHF⟩ : ∃ z, z = w1.alloc (.cells #[.int .i64 F.p, .int .i64 F.k, .slice a1 F.poly.length c1] 34) := ⟨_, rfl⟩
      have bF : Below w1.heap.size w1 W1 := by rw [hHF]; exact (Below.refl _ _).alloc (Nat.le_refl _) _
      have kF : Blk W1 w1.heap.size 34 #[.int .i64 F.p, .int .i64 F.k, .slice a1 F.poly.length c1] := by rw [hHF]; exact Blk.new _ _ _ rfl
      have skF : w1.heap.size < W1.heap.size := kF.lt
      have HF := Lib.hid hHF
      clear hHF
      have hb1 := Below.chain b1 bF
      have hx1 := hx.below hb1
      go_upto_region 3 with fail
      rw [← HF.out]
      go_wp2_with fail
      refine (unhide HE _ hx1).mono ?_
      rintro e w2 ⟨rfl, b2⟩
      go_wp2
      go_ret2
      exact ⟨_, rfl, Own.nil _ _, Below.chain hb1 b2⟩
  ·
    rw [if_neg h0]
    have hcn : (c != 0) = true := by rw [bne_iff_ne]; exact h0
    have h0' := hide h0
    have HL := hide hL
    clear hL h0 hc
    go_enter Try.func30, Try.ntmps30
    go_wp2_with fail
    refine (size_any _ _ _ _).mono ?_
    rintro e w1 ⟨rfl, rfl⟩
    go_wp2_with fail
    refine (unhide HL).mono ?_
    rintro e w1 ⟨v1, rfl, o1, b1⟩
    rw [if_neg (unhide h0'), if_neg (unhide h0')]
    rw [if_neg (unhide h0')] at o1
    obtain ⟨a1, c1, rfl, r1, _⟩ := o1.form
    obtain ⟨W1, hHF⟩ : ∃ z, z = w1.alloc (.cells #[.int .i64 0, .int .i64 0, .slice a1 0 c1] 34) := ⟨_, rfl⟩
    have bF : Below w1.heap.size w1 W1 := by rw [hHF]; exact (Below.refl _ _).alloc (Nat.le_refl _) _
    have kF : Blk W1 w1.heap.size 34 #[.int .i64 0, .int .i64 0, .slice a1 0 c1] := by rw [hHF]; exact Blk.new _ _ _ rfl
    have skF : w1.heap.size < W1.heap.size := kF.lt
    have HF := Lib.hid hHF
    clear hHF
    have hb1 := Below.chain b1 bF
    go_upto_region 3 with fail
    rw [← HF.out]
    go_wp2
    go_ret2
    exact ⟨_, rfl, Own.nil _ _, hb1⟩
end Go.Proofs.Ytgmgpcaahanmiaa

