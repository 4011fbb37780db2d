/-
  Walks of slices.Clone, digitsOf, remainder (the program's).
-/
import Derived.Test.YtkbppgpegljcoaaIdx
namespace Go.Proofs.Ytkbppgpegljcoaa
open Go.RowKit

theorem Own.cap {w : World} {B : Nat} {a : Option Addr} {n c : Nat} {xs : List Int} (h : Own w B (.slice a n c) xs) : n ≤ c ∧ c ≤ maxLen := by
  have hl := h.len
  subst hl
  rcases h.2.2 with ⟨e, h0⟩ | ⟨g', cap, cur, e, hb, hg, hn, hcm, hs, ht⟩
  · injection e with e1 e2 e3
    subst e3
    simp [h0]
  · injection e with e1 e2 e3
    subst e3
    exact ⟨hn, hcm⟩
theorem Own.take {w : World} {B : Nat} {g n c : Nat} {xs : List Int} (h : Own w B (.slice (some ⟨g, 0, none⟩) n c) xs) {m : Nat} (hm : m ≤ n) : Own w B (.slice (some ⟨g, 0, none⟩) m c) (xs.take m) := by
  have hl := h.len
  subst hl
  obtain ⟨h1, h2, h3⟩ := h
  refine ⟨by rw [List.length_take]; omega, ?_⟩
  have hml : (xs.take m).length = m := by rw [List.length_take]; omega
  rw [hml]
  refine ⟨by rw [List.length_map, hml]; omega, .inr ?_⟩
  rcases h3 with ⟨e, _⟩ | ⟨g', cap, cur, e, hb, hg, hn, hcm, hs, ht⟩
  · cases e
  · injection e with e1 e2 e3
    injection e1 with e1
    injection e1 with e1
    subst e1
    subst e3
    refine ⟨g, c, cur, rfl, hb, hg, by omega, hcm, hs, ?_⟩
    rw [List.map_take, ← ht, List.take_take]
    congr 1
    omega

set_option maxHeartbeats 400000 in
theorem clone_any (a : Option Addr) (c : Nat) (xs : List Int) (w : World) (hx : Rd w a xs) :
    Calls Try.prog 91 #[.slice a xs.length c] w fun e w' => ∃ v, e = .returned v ∧ Own w' w.heap.size v xs ∧ Below w.heap.size w w' := by
  have q : ∀ (w : World) (a : Option Addr) (n c n' c' : Nat), (binOp .eql 25 (.slice a n c) (.slice none n' c')).run Try.prog w = .ok (.bool a.isNone) w := fun w a n c n' c' => Lib.run_eql_slice_nil w _ _ a n c n' c' Try.underlying25
  have hl := hx.len
  cases a with
  | none =>
    have h0 : xs = [] := by
      rcases Nat.eq_zero_or_pos xs.length with h | h
      · exact List.eq_nil_of_length_eq_zero h
      · obtain ⟨_, _, e, _⟩ := hx.at_ h
        cases e
    subst h0
    go_enter Try.func91, Try.ntmps91
    go_wp2
    go_ret
    exact ⟨_, rfl, Own.nil _ _, Below.refl _ _⟩
  | some p =>
    go_enter Try.func91, Try.ntmps91
    go_wp2_with (at_builtin; refine wpList_append_ints rfl (.tmp 5) (.tmp 6) rfl w.heap.size (.slice (some ⟨w.heap.size, 0, none⟩) 0 0) [] xs rfl (Own.empty w (Nat.le_refl _)) (some p) xs.length c rfl rfl (hx.alloc _) (by simp; omega) (by simp) ?_; intro v1 w1 hown1 hg1 _)
    go_ret
    refine ⟨_, rfl, by simpa using hown1, ?_⟩
    exact Below.step ((Below.refl _ _).alloc (Nat.le_refl _) _) hg1 (Own.empty w (Nat.le_refl _)) (Nat.le_refl _) (by simp)

set_option maxHeartbeats 400000 in
theorem digitsOf_any (n p : Int) (k : Nat) (w : World) (hn : 0 ≤ n) (hn2 : n ≤ 9223372036854775807) (hp : 1 ≤ p) (hp2 : p ≤ 1000000) (hk : k ≤ 1000000) :
    Calls Try.prog 79 #[.int .i64 n, .int .i64 p, .int .i64 k] w fun e w' => ∃ v, e = .returned v ∧ Own w' w.heap.size v (dig n p k) ∧ Below w.heap.size w w' := by
  have hmk := fun W => run_make_row' (P := Try.prog) 25 2 (.int .i64 0) 8 Try.underlying25 Try.info_i64 rfl .i64 .i64 k (by omega) (by omega) W
  go_enter Try.func79, Try.ntmps79
  go_wp2
  go_loopw [0, 13] (fun nv i wr => ∃ (j : Nat) (m : Int), i = .int .i64 j ∧ nv = .int .i64 m ∧ j ≤ k ∧ 0 ≤ m ∧ m ≤ 9223372036854775807 ∧ Hid (m = n / p ^ j) ∧ wr.rowIs w.heap.size 2 k (fun i => if i < j then .int .i64 (nth (dig n p k) i) else .int .i64 0) ∧ Below w.heap.size w wr) (fun _ i _ => k - (intOf i).toNat)
  case atStart => exact ⟨0, n, rfl, rfl, by omega, hn, hn2, show _ = _ by simp, (World.rowIs_made w _ _ _).congr (fun i _ => by simp), (Below.refl _ _).alloc (Nat.le_refl _) _⟩
  case round =>
    obtain ⟨j, m, rfl, rfl, hj, hm0, hm1, hM, hrow, hb⟩ := hrel
    by_cases hjl : j < k
    · obtain ⟨u, hc1⟩ : ∃ u, wr.cell? ⟨w.heap.size, j, none⟩ = some u := ⟨_, hrow.cell hjl⟩
      have hf1 := hrow.frozen j
      have HR := Lib.hid hrow
      have hq0 : 0 ≤ m / p := Int.ediv_nonneg hm0 (by omega)
      have hq1 : m / p ≤ m := Int.ediv_le_self _ hm0
      clear hrow hmk
      go_wp2
      go_roundw
      case rel =>
        have hMM := hM.out
        refine ⟨j + 1, m / p, by go_num, rfl, by omega, hq0, by omega, show _ = _ by rw [hMM, div_pow_succ n p (by omega) j], (HR.out.set j _).congr (fun i hi => ?_), hb.setCell (Nat.le_refl _) _⟩
        by_cases h1 : i = j
        · subst h1
          simp [dig_nth n p hi, hMM]
        · by_cases h2 : i < j
          · simp [h1, h2, show i < j + 1 by omega]
          · simp [h1, h2, show ¬ i < j + 1 by omega]
      case measure => simp [intOf]; omega
    · have HR := Lib.hid hrow
      clear hrow
      go_wp2
      go_ret
      exact ⟨_, rfl, Own.of_rowIs HR.out (Nat.le_refl _) (dig_len _ _ _) (by rw [dig_len]; omega) (fun i hi => by simp [show i < j by omega]), hb⟩

theorem tmod_fix {x p : Int} (hp : 0 < p) : (x.tmod p + p) % p = x % p := by
  rw [Int.add_emod_right]
  rcases Int.le_total 0 x with h | h
  · rw [Int.tmod_eq_emod_of_nonneg h, Int.emod_emod]
  · have e := Int.mul_tdiv_add_tmod x p
    conv => rhs; rw [← e]
    rw [Int.add_comm, Int.add_mul_emod_self_left]
theorem tmod_lo {x p : Int} (hp : 0 < p) : -p < x.tmod p := by
  rcases Int.le_total 0 x with h | h
  · have := Int.tmod_nonneg p h; omega
  · have e : (-x).tmod p = -(x.tmod p) := Int.neg_tmod ..
    have h1 := Int.tmod_lt_of_pos (-x) hp
    omega
theorem tmod_hi {x p : Int} (hp : 0 < p) : x.tmod p < p := Int.tmod_lt_of_pos x hp

theorem take_len_le {xs : List Int} {m : Nat} (h : m ≤ xs.length) : (xs.take m).length = m := by rw [List.length_take]; omega

set_option maxHeartbeats 1600000 in
theorem remainder_any (a b : Option Addr) (c d : Nat) (xs ys : List Int) (p : Int) (w : World) (hx : Rd w a xs) (hy : Rd w b ys) (hp : 1 ≤ p) (hp2 : p ≤ 1000) (hxr : InR p xs) (hyr : ∀ y ∈ ys, 0 ≤ y ∧ y ≤ p) (hn : 1 ≤ xs.length) (hm : 1 ≤ ys.length) :
    Calls Try.prog 161 #[.slice a xs.length c, .slice b ys.length d, .int .i64 p] w fun e w' => ∃ v, e = .returned v ∧ Own w' w.heap.size v (prem p ys xs) ∧ Below w.heap.size w w' := by
  have hxl := hx.len
  have hyl := hy.len
  go_enter Try.func161, Try.ntmps161
  go_wp2_with fail
  refine (clone_any a c xs w hx).mono ?_
  rintro e w1 ⟨v, rfl, o1, b1⟩
  rcases o1.slice_form with ⟨rfl, rfl⟩ | ⟨g, cg, rfl, hB, hg⟩
  · simp at hn
  have hcap := o1.cap
  unfold maxLen at hcap
  obtain ⟨hcap1, hcap2⟩ := hcap
  clear hx
  go_wp2_with fail
  go_loopw [9] (fun kv wr => ∃ (t : Nat) (k : Int), kv = .int .i64 k ∧ Hid (k = (xs.length : Int) - 1 - t) ∧ k ≤ (xs.length : Int) - 1 ∧ -1 ≤ k ∧ Own wr w.heap.size (.slice (some ⟨g, 0, none⟩) xs.length cg) (remTo p ys xs t) ∧ Below w.heap.size w wr ∧ Hid (t ≤ xs.length - (ys.length - 1))) (fun kv _ => (intOf kv + 1).toNat)
  case atStart => exact ⟨0, _, rfl, show _ = _ by simp, by omega, by omega, o1, b1, Nat.zero_le _⟩
  case round =>
    obtain ⟨t, k, rfl, HK, hk1, hk2, ho, hb, hT⟩ := hrel
    have hlen := remTo_len p ys xs t
    by_cases hgo : (ys.length : Int) - 1 ≤ k
    · obtain ⟨i, rfl⟩ := Int.eq_ofNat_of_zero_le (show 0 ≤ k by omega)
      have hil : i < xs.length := by omega
      obtain ⟨R, hR⟩ : ∃ R, R = remTo p ys xs t := ⟨_, rfl⟩
      rw [← hR] at ho hlen
      have hRr : InR p R := by rw [hR]; exact remTo_in (by omega) hxr ys t
      have hc1 := ho.cell (j := i) (by omega)
      have hf := hRr.nth (i := i) (by omega)
      obtain ⟨F, hF⟩ : ∃ F, F = nth R i := ⟨_, rfl⟩
      rw [← hF] at hc1 hf
      have hf0 := hf.1
      have hf1 := hf.2
      have HR := Lib.hid hR
      have HF := Lib.hid hF
      have HL := Lib.hid hlen
      clear hR hF hlen hf
      go_wp2_with fail
      go_loopw [33] (fun jv wr2 => ∃ (j : Nat), jv = .int .i64 j ∧ j ≤ ys.length ∧ Own wr2 w.heap.size (.slice (some ⟨g, 0, none⟩) xs.length cg) (setK R ys F p (i - (ys.length - 1)) j) ∧ Below w.heap.size w wr2) (fun jv _ => ys.length - (intOf jv).toNat)
      case atStart => exact ⟨0, rfl, Nat.zero_le _, ho, hb⟩
      case round =>
        obtain ⟨j, rfl, hj, ho2, hb2⟩ := hrel
        have hSl := setK_len R ys F p (i - (ys.length - 1)) j
        by_cases hjl : j < ys.length
        · have hoff : i - (ys.length - 1) + j < xs.length := by omega
          obtain ⟨b2, o2, rfl, _, hcy⟩ := (hy.below hb2).at_ (by omega)
          have hy1 := hcy j hjl
          have hx1 := ho2.cell (j := i - (ys.length - 1) + j) (by rw [hSl, HL.out]; omega)
          rw [setK_nth _ _ _ _ _ (.inr (Nat.le_refl _))] at hx1
          have hxf := ho2.frozen (i - (ys.length - 1) + j)
          have hyb := hyr _ (nth_mem hjl)
          have hxb := hRr.nth (i := i - (ys.length - 1) + j) (by rw [HL.out]; omega)
          generalize hX : nth R (i - (ys.length - 1) + j) = X at hx1 hxb
          generalize hY : nth ys j = Y at hy1 hyb
          obtain ⟨hyb1, hyb2⟩ := hyb
          obtain ⟨hxb1, hxb2⟩ := hxb
          have hFY0 : 0 ≤ F * Y := Int.mul_nonneg hf0 hyb1
          have hFY1 : F * Y ≤ 1000000 := by
            have := Int.mul_le_mul (show F ≤ 1000 by omega) (show Y ≤ 1000 by omega) hyb1 (by omega)
            omega
          have ht1 := tmod_lo (x := X - F * Y) (show 0 < p by omega)
          have ht2 := tmod_hi (x := X - F * Y) (show 0 < p by omega)
          have HX := Lib.hid hX
          have HY := Lib.hid hY
          have HO2 := Lib.hid ho2
          have HO := Lib.hid ho
          have HS := Lib.hid hSl
          have hix : (i : Int) - ((ys.length : Int) - 1) + (j : Int) = ((i - (ys.length - 1) + j : Nat) : Int) := by omega
          have HIX := Lib.hid hix
          clear hX hY ho2 ho hSl hcy hix
          go_wp2
          go_roundw
          case rel =>
            have hs := HO2.out.set (i - (ys.length - 1) + j) ((X - F * Y).tmod p % p)
            refine ⟨j + 1, by go_num, by omega, ?_, hb2.setCell (by show w.heap.size ≤ g; omega) _⟩
            rw [setK, HX.out, HY.out, ← tmod_fix (x := X - F * Y) (show 0 < p by omega), Int.add_emod_right]
            exact hs.1
          case measure => simp only [intOf]; omega
        · have hje : j = ys.length := by omega
          have HJ := Lib.hid hje
          have HO2 := Lib.hid ho2
          clear hje ho2 ho hSl
          go_wp2
          go_roundw
          case rel =>
            have e1 := HJ.out
            have e2 := HR.out
            have e3 := HF.out
            have e4 := HK.out
            have o := HO2.out
            rw [e1] at o
            refine ⟨t + 1, (i : Int) - 1, rfl, show _ = _ by omega, by omega, by omega, ?_, hb2, show _ ≤ _ by omega⟩
            rw [remTo, ← e2, show xs.length - 1 - t = i by omega, ← e3]
            exact o
          case measure => simp only [intOf]; omega
    · have hTe : t = xs.length - (ys.length - 1) := by have := hT.out; have := HK.out; omega
      have HTE := Lib.hid hTe
      have HL := Lib.hid hlen
      have HO := Lib.hid ho
      clear hTe hlen ho
      by_cases hmn : ys.length - 1 ≤ xs.length
      · go_wp2
        go_ret
        have e1 := HTE.out
        rw [e1] at HO
        exact ⟨_, rfl, HO.out.take hmn, hb⟩
      · go_wp2
        go_ret
        have e1 := HTE.out
        rw [e1] at HO
        refine ⟨_, rfl, ?_, hb⟩
        have := HO.out.take (Nat.le_refl _)
        rw [prem, List.take_of_length_le (by rw [remTo_len]; omega)]
        rwa [List.take_of_length_le (by rw [remTo_len]; omega)] at this

end Go.Proofs.Ytkbppgpegljcoaa
