/-
  Walks: marks on rows, fields, codes; what is held of them.
-/
import Derived.Test.YtkbppgpegljcoaaKeep
namespace Go.Proofs.Ytkbppgpegljcoaa
open Go.RowKit

theorem markH_any (B hi : Nat) (v : Value) (k : Int) (xs : List Int) (w : World) (hx : OwnH w B hi v xs) (hB : B ≤ w.heap.size) (hk0 : 0 ≤ k) (hk1 : k ≤ 9000000000000000000) :
    Calls Try.prog 23 #[v, .int .i64 k] w fun e w' => e = .returned (.int .i64 (k + xs.length)) ∧ OwnH w' B hi v (marked k xs.length) ∧ w.grownBy w' v.ownBlock ∧ Mk w w' B hi := by
  refine (markInt64S_any v k xs B w hx.1 hk0 hk1).mono ?_
  rintro e w' ⟨rfl, ho, hg⟩
  exact ⟨rfl, ⟨ho, hx.2⟩, hg, Mk.grown hg hx.2 hB⟩

/-- i rows of xss marked from k on. -/
def mkTo (k : Int) (xss : List (List Int)) (i : Nat) : List (List Int) := (markS k (xss.map List.length)).take i ++ xss.drop i
theorem mkTo_len (k : Int) (xss : List (List Int)) {i : Nat} (hi : i ≤ xss.length) : (mkTo k xss i).length = xss.length := by
  rw [mkTo, List.length_append, List.length_take, markS_len, List.length_map, List.length_drop]; omega
theorem mkTo_next {k : Int} {xss : List (List Int)} {i : Nat} (hi : i < xss.length) : nthL (mkTo k xss i) i = nthL xss i := by
  rw [mkTo, nthL, List.getD_eq_getElem?_getD, List.getElem?_append_right (by rw [List.length_take, markS_len, List.length_map]; omega), List.length_take, markS_len, List.length_map, Nat.min_eq_left (by omega), Nat.sub_self, List.getElem?_drop, ← List.getD_eq_getElem?_getD]
  rfl
theorem mkTo_succ {k : Int} {xss : List (List Int)} {i : Nat} (hi : i < xss.length) : (mkTo k xss i).set i (marked (k + (((xss.map List.length).take i).sum : Nat)) (nthL xss i).length) = mkTo k xss (i + 1) := by
  have hm := markS_nth k (xss.map List.length) i (by simpa using hi)
  have hl : (xss.map List.length).getD i 0 = (nthL xss i).length := by simp [nthL, List.getD_eq_getElem?_getD, hi]
  rw [hl] at hm
  have hlen : i < (markS k (xss.map List.length)).length := by rw [markS_len]; simpa using hi
  rw [mkTo, mkTo, List.set_append_right _ _ (by rw [List.length_take, markS_len, List.length_map]; omega), List.length_take, markS_len, List.length_map, Nat.min_eq_left (by omega), Nat.sub_self, ← hm, List.drop_eq_getElem_cons hi, List.set_cons_zero, take_nthL hlen, List.append_assoc]
  rfl
theorem lens_take (xss : List (List Int)) {i : Nat} (hi : i < xss.length) : ((xss.map List.length).take (i + 1)).sum = ((xss.map List.length).take i).sum + (nthL xss i).length := by
  rw [sum_take_succ _ (by simpa using hi)]
  congr 1
  simp [nthL, List.getD_eq_getElem?_getD, hi]

set_option maxHeartbeats 800000 in
theorem markSS_any (B hi : Nat) (a : Option Addr) (n c : Nat) (k : Int) (xss : List (List Int)) (w : World) (hn : n = xss.length) (hx : OwnSH w B hi (.slice a n c) xss) (hB : B ≤ w.heap.size) (hk0 : 0 ≤ k) (hk1 : k + ((xss.map List.length).sum : Nat) ≤ 9000000000000000000) :
    Calls Try.prog 43 #[.slice a n c, .int .i64 k] w fun e w' => e = .returned (.int .i64 (k + ((xss.map List.length).sum : Nat))) ∧ OwnSH w' B hi (.slice a n c) (markS k (xss.map List.length)) ∧ Mk w w' B hi := by
  have hxl := hx.1
  subst hn
  go_enter Try.func43, Try.ntmps43
  go_wp2
  go_loopw [1, 5] (fun kv iv wr => ∃ (i s : Nat), iv = .int .i64 i ∧ kv = .int .i64 (k + s) ∧ i ≤ xss.length ∧ Hid (s = ((xss.map List.length).take i).sum) ∧ Hid (OwnSH wr B hi (.slice a xss.length c) (mkTo k xss i)) ∧ Hid (Mk w wr B hi)) (fun _ iv _ => xss.length - (intOf iv).toNat)
  case atStart => exact ⟨0, 0, rfl, by simp, Nat.zero_le _, by show _ = _; simp, hx, Mk.refl _ _ _⟩
  case round =>
    obtain ⟨i, s, rfl, rfl, hiL, hs, ho, hm⟩ := hrel
    by_cases hil : i < xss.length
    · have hsz := hm.out.size
      have hlen := mkTo_len k xss (i := i) (by omega)
      obtain ⟨ar, cr, hrow, hcell, hput⟩ := ho.out.row (i := i) (by rw [hlen]; exact hil)
      obtain ⟨b, off, rfl, hb, hc⟩ := ho.out.rd.at_ (by rw [hlen]; omega)
      have h1 := hcell b off _ _ rfl
      rw [mkTo_next hil] at h1 hrow hput
      obtain ⟨row, hrw⟩ : ∃ row, row = nthL xss i := ⟨_, rfl⟩
      have hst := lens_take xss hil
      have hts := sum_take_le (xss.map List.length) (i + 1)
      rw [← hrw] at h1 hrow hput hst
      have hmk := fun W h hB => markH_any B hi (.slice ar row.length cr) (k + s) row W h hB (by omega) (by have := hs.out; omega)
      have HMK := hide hmk
      have HST := Lib.hid hst
      have HRW := Lib.hid hrw
      have HLEN := Lib.hid hlen
      have hxl2 := hs
      clear hmk hcell hc hst hrw hts hlen
      go_wp2_with fail
      refine (unhide HMK wr hrow (by omega)).mono ?_
      rintro e w1 ⟨rfl, o1, g1, m1⟩
      have hres := hput w1 (marked (k + s) row.length) o1 (by rw [marked_len]) g1
      rw [hs.out, HRW.out, mkTo_succ hil] at hres
      have HRES := Lib.hid hres
      clear hres hput
      have hmm := hm.out.trans m1
      go_wp2_with fail
      go_roundw
      case rel => exact ⟨i + 1, s + row.length, by go_num, (by congr 1; omega), by omega, by show _ = _; rw [HST.out, hs.out], HRES.out, hmm⟩
      case measure => simp only [intOf]; omega
    · have hie : i = xss.length := by omega
      have HI := Lib.hid hie
      clear hie
      go_wp2
      go_ret
      have e1 := HI.out
      have e2 := hs.out
      have e3 := ho.out
      rw [e1, List.take_of_length_le (by simp)] at e2
      rw [e1, mkTo, List.take_of_length_le (by rw [markS_len]; simp), List.drop_length, List.append_nil] at e3
      exact ⟨ret_int (by rw [e2]), e3, hm.out⟩

set_option maxHeartbeats 800000 in
theorem heldSS_any (a : Option Addr) (n c : Nat) (k : Int) (ls : List Nat) (w : World) (hn : n = ls.length) (hx : RdS w a (markS k ls)) (hk0 : 0 ≤ k) (hk1 : k + (ls.sum : Nat) ≤ 9000000000000000000) :
    Calls Try.prog 54 #[.slice a n c, .int .i64 k] w fun e w' => e = .returned (.int .i64 (k + (ls.sum : Nat))) ∧ w = w' := by
  have hxl := hx.len
  rw [markS_len] at hxl
  subst hn
  go_enter Try.func54, Try.ntmps54
  go_wp2
  go_loop [1, 5] (fun kv iv => ∃ (i s : Nat), iv = .int .i64 i ∧ kv = .int .i64 (k + s) ∧ i ≤ ls.length ∧ Hid (s = (ls.take i).sum)) (fun _ iv => ls.length - (intOf iv).toNat)
  case atStart => exact ⟨0, 0, rfl, by simp, Nat.zero_le _, by show _ = _; simp⟩
  case round =>
    obtain ⟨i, s, rfl, rfl, hi, hs⟩ := hrel
    by_cases hil : i < ls.length
    · obtain ⟨b, off, rfl, hb, hc⟩ := hx.at_ (by rw [markS_len]; omega)
      obtain ⟨ai, ci, h1, hr⟩ := hc i (by rw [markS_len]; exact hil)
      have hst := sum_take_succ ls hil
      have hts := sum_take_le ls (i + 1)
      have hss := hs.out
      rw [markS_nth k ls i hil, ← hss] at h1 hr
      rw [marked_len] at h1
      generalize hm : ls.getD i 0 = m at h1 hr hst
      have hh := fun W h => heldInt64S_marked ai ci m (k + s) W h (by omega) (by omega)
      have HH := hide hh
      have HST := Lib.hid hst
      have hm0 : 0 ≤ k + (s : Int) + (m : Int) := by omega
      clear hh hst hts hss hm hc hx
      go_wp2_with fail
      refine (unhide HH w hr).mono ?_
      rintro e w1 ⟨rfl, rfl⟩
      have hlt : decide (k + (s : Int) + (m : Int) < 0) = false := by rw [decide_eq_false_iff_not]; omega
      go_wp2_with fail
      go_round
      case rel => exact ⟨i + 1, s + m, by go_num, (by congr 1; omega), by omega, by show _ = _; rw [HST.out, hs.out]⟩
      case measure => simp only [intOf]; omega
    · have hie : i = ls.length := by omega
      have HI := Lib.hid hie
      clear hie
      go_wp2
      go_ret
      have e1 := HI.out
      have e2 := hs.out
      rw [e1, List.take_of_length_le (Nat.le_refl _)] at e2
      exact ⟨ret_int (by rw [e2]), rfl⟩

theorem markField_any (B hi : Nat) (p d : Int) (a : Option Addr) (n c : Nat) (k : Int) (xs : List Int) (w : World) (hn : n = xs.length) (hx : OwnH w B hi (.slice a n c) xs) (hB : B ≤ w.heap.size) (hh : hi ≤ w.heap.size) (hk0 : 0 ≤ k) (hk1 : k ≤ 9000000000000000000) :
    Calls Try.prog 42 #[.agg #[.int .i64 p, .int .i64 d, .slice a n c], .int .i64 k] w fun e w' => e = .returned (.int .i64 (k + xs.length)) ∧ OwnH w' B hi (.slice a n c) (marked k xs.length) ∧ Mk w w' B hi := by
  subst hn
  obtain ⟨w0, hw0⟩ : ∃ w0, w0 = w.alloc (.cells #[.int .i64 p, .int .i64 d, .slice a xs.length c] 41) := ⟨_, rfl⟩
  have hb0 : Below w.heap.size w w0 := by rw [hw0]; exact (Below.refl _ _).alloc (Nat.le_refl _) _
  have k0 : Blk w0 w.heap.size 41 #[.int .i64 p, .int .i64 d, .slice a xs.length c] := by rw [hw0]; exact Blk.new _ _ _ rfl
  have s0 : w0.heap.size = w.heap.size + 1 := by rw [hw0]; simp
  have HW := Lib.hid hw0
  clear hw0
  have f2 : w0.cell? ⟨w.heap.size, 2, none⟩ = some (.slice a xs.length c) := k0.cell 2
  have hm := markH_any B hi (.slice a xs.length c) k xs w0 (hx.kp (Kp.below hb0 hh)) (by omega) hk0 hk1
  have HM := hide hm
  have h1 : 0 ≤ k + (xs.length : Int) := by omega
  clear hm
  go_enter Try.func42, Try.ntmps42
  go_wp2_with fail
  rw [← HW.out]
  refine (unhide HM).mono ?_
  rintro e w1 ⟨rfl, o1, g1, m1⟩
  go_wp2
  go_ret
  exact ⟨rfl, o1, (Mk.alloc hb0 hB).trans m1⟩

theorem markCode_any (B hi : Nat) (p d : Int) (a b : Option Addr) (n m c cb : Nat) (k : Int) (xs : List Int) (xss : List (List Int)) (w : World) (hn : n = xs.length) (hm : m = xss.length) (hx : OwnCH w B hi (.slice a n c) (.slice b m cb) xs xss) (hB : B ≤ w.heap.size) (hh : hi ≤ w.heap.size) (hk0 : 0 ≤ k) (hk1 : k + xs.length + ((xss.map List.length).sum : Nat) ≤ 9000000000000000000) :
    Calls Try.prog 44 #[.agg #[.int .i64 p, .int .i64 d, .slice a n c, .slice b m cb], .int .i64 k] w fun e w' => e = .returned (.int .i64 (k + xs.length + ((xss.map List.length).sum : Nat))) ∧ OwnCH w' B hi (.slice a n c) (.slice b m cb) (marked k xs.length) (markS (k + xs.length) (xss.map List.length)) ∧ Mk w w' B hi := by
  subst hn
  subst hm
  obtain ⟨M, hM1, hM2, hxF, hxS⟩ := hx
  obtain ⟨w0, hw0⟩ : ∃ w0, w0 = w.alloc (.cells #[.int .i64 p, .int .i64 d, .slice a xs.length c, .slice b xss.length cb] 43) := ⟨_, rfl⟩
  have hb0 : Below w.heap.size w w0 := by rw [hw0]; exact (Below.refl _ _).alloc (Nat.le_refl _) _
  have k0 : Blk w0 w.heap.size 43 #[.int .i64 p, .int .i64 d, .slice a xs.length c, .slice b xss.length cb] := by rw [hw0]; exact Blk.new _ _ _ rfl
  have s0 : w0.heap.size = w.heap.size + 1 := by rw [hw0]; simp
  have HW := Lib.hid hw0
  clear hw0
  have f0 : w0.cell? ⟨w.heap.size, 0, none⟩ = some (.int .i64 p) := k0.cell 0
  have f1 : w0.cell? ⟨w.heap.size, 1, none⟩ = some (.int .i64 d) := k0.cell 1
  have f2 : w0.cell? ⟨w.heap.size, 2, none⟩ = some (.slice a xs.length c) := k0.cell 2
  have hF := markField_any B M p d a xs.length c k xs w0 rfl (hxF.kp (Kp.below hb0 (by omega))) (by omega) (by omega) hk0 (by omega)
  have HF := hide hF
  clear hF
  go_enter Try.func44, Try.ntmps44
  go_wp2_with fail
  rw [← HW.out]
  refine (unhide HF).mono ?_
  rintro e w1 ⟨rfl, o1, m1⟩
  have s1 := m1.size
  have hS := markSS_any M hi b xss.length cb (k + xs.length) xss w1 rfl (hxS.kp ((Kp.below hb0 hh).trans (m1.kp (.inr (Nat.le_refl _)) (by omega)))) (by omega) (by omega) (by omega)
  have k1 := k0.kp (m1.kp (.inr (by omega)) (by omega))
  have f3 : w1.cell? ⟨w.heap.size, 3, none⟩ = some (.slice b xss.length cb) := k1.cell 3
  have HS := hide hS
  have h1 : 0 ≤ k + (xs.length : Int) := by omega
  clear hS f0 f1 f2
  go_wp2_with fail
  refine (unhide HS).mono ?_
  rintro e w2 ⟨rfl, o2, m2⟩
  go_wp2
  go_ret
  exact ⟨rfl, ⟨M, hM1, hM2, o1.kp (m2.kp (.inl (Nat.le_refl _)) (by omega)), o2⟩, ((Mk.alloc hb0 hB).trans (m1.wide (Nat.le_refl _) hM2)).trans (m2.wide hM1 (Nat.le_refl _))⟩

theorem heldField_any (p d : Int) (a : Option Addr) (n c : Nat) (k : Int) (w : World) (hx : Rd w a (marked k n)) (hk0 : 0 ≤ k) (hk1 : k ≤ 9000000000000000000) :
    Calls Try.prog 107 #[.agg #[.int .i64 p, .int .i64 d, .slice a n c], .int .i64 k] w fun e w' => e = .returned (.int .i64 (k + n)) ∧ Below w.heap.size w w' := by
  have hl := hx.len
  rw [marked_len] at hl
  obtain ⟨w0, hw0⟩ : ∃ w0, w0 = w.alloc (.cells #[.int .i64 p, .int .i64 d, .slice a n c] 41) := ⟨_, rfl⟩
  have hb0 : Below w.heap.size w w0 := by rw [hw0]; exact (Below.refl _ _).alloc (Nat.le_refl _) _
  have k0 : Blk w0 w.heap.size 41 #[.int .i64 p, .int .i64 d, .slice a n c] := by rw [hw0]; exact Blk.new _ _ _ rfl
  have s0 : w0.heap.size = w.heap.size + 1 := by rw [hw0]; simp
  have HW := Lib.hid hw0
  clear hw0
  have f2 : w0.cell? ⟨w.heap.size, 2, none⟩ = some (.slice a n c) := k0.cell 2
  have hm := heldInt64S_marked a c n k w0 (hx.below hb0) hk0 hk1
  have HM := hide hm
  have h1 : 0 ≤ k + (n : Int) := by omega
  have h2 : decide (k + (n : Int) < 0) = false := by rw [decide_eq_false_iff_not]; omega
  clear hm
  go_enter Try.func107, Try.ntmps107
  go_wp2_with fail
  rw [← HW.out]
  refine (unhide HM).mono ?_
  rintro e w1 ⟨rfl, rfl⟩
  go_wp2
  go_ret
  exact ⟨rfl, hb0⟩

theorem heldCode_any (p d : Int) (a b : Option Addr) (n m c cb : Nat) (k : Int) (ls : List Nat) (w : World) (hm : m = ls.length) (hx : Rd w a (marked k n)) (hs : RdS w b (markS (k + n) ls)) (hk0 : 0 ≤ k) (hk1 : k + n + (ls.sum : Nat) ≤ 9000000000000000000) :
    Calls Try.prog 45 #[.agg #[.int .i64 p, .int .i64 d, .slice a n c, .slice b m cb], .int .i64 k] w fun e w' => e = .returned (.int .i64 (k + n + (ls.sum : Nat))) ∧ Below w.heap.size w w' := by
  subst hm
  have hl := hx.len
  rw [marked_len] at hl
  obtain ⟨w0, hw0⟩ : ∃ w0, w0 = w.alloc (.cells #[.int .i64 p, .int .i64 d, .slice a n c, .slice b ls.length cb] 43) := ⟨_, rfl⟩
  have hb0 : Below w.heap.size w w0 := by rw [hw0]; exact (Below.refl _ _).alloc (Nat.le_refl _) _
  have k0 : Blk w0 w.heap.size 43 #[.int .i64 p, .int .i64 d, .slice a n c, .slice b ls.length cb] := by rw [hw0]; exact Blk.new _ _ _ rfl
  have s0 : w0.heap.size = w.heap.size + 1 := by rw [hw0]; simp
  have HW := Lib.hid hw0
  clear hw0
  have f0 : w0.cell? ⟨w.heap.size, 0, none⟩ = some (.int .i64 p) := k0.cell 0
  have f1 : w0.cell? ⟨w.heap.size, 1, none⟩ = some (.int .i64 d) := k0.cell 1
  have f2 : w0.cell? ⟨w.heap.size, 2, none⟩ = some (.slice a n c) := k0.cell 2
  have hF := heldField_any p d a n c k w0 (hx.below hb0) hk0 (by omega)
  have HF := hide hF
  have h1 : 0 ≤ k + (n : Int) := by omega
  have h2 : decide (k + (n : Int) < 0) = false := by rw [decide_eq_false_iff_not]; omega
  have h3 : 0 ≤ k + (n : Int) + ((ls.sum : Nat) : Int) := by omega
  have h4 : decide (k + (n : Int) + ((ls.sum : Nat) : Int) < 0) = false := by rw [decide_eq_false_iff_not]; omega
  clear hF
  go_enter Try.func45, Try.ntmps45
  go_wp2_with fail
  rw [← HW.out]
  refine (unhide HF).mono ?_
  rintro e w1 ⟨rfl, b1⟩
  have k1 := k0.below b1 k0.lt
  have f3 : w1.cell? ⟨w.heap.size, 3, none⟩ = some (.slice b ls.length cb) := k1.cell 3
  have hS := heldSS_any b ls.length cb (k + n) ls w1 rfl ((hs.below hb0).below b1) (by omega) (by omega)
  have HS := hide hS
  clear hS f0 f1 f2
  go_wp2_with fail
  refine (unhide HS).mono ?_
  rintro e w2 ⟨rfl, rfl⟩
  go_wp2
  go_ret
  exact ⟨rfl, hb0.trans (b1.mono (by omega))⟩
end Go.Proofs.Ytkbppgpegljcoaa
