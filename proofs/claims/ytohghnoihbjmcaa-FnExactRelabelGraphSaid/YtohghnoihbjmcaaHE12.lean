/-
  Texts joined.
-/
import Derived.Test.YtohghnoihbjmcaaHE1
import Derived.Test.YtohghnoihbjmcaaHE2
import Derived.Test.YtohghnoihbjmcaaHE7
import Derived.Test.YtohghnoihbjmcaaHE10
import Derived.Test.YtohghnoihbjmcaaHE11
set_option linter.unusedVariables false
set_option linter.unusedSimpArgs false
set_option maxRecDepth 100000
set_option maxHeartbeats 40000000
namespace Go.Proofs.Ytohghnoihbjmcaa
open Go.RowKit
theorem idRow_set {n j : Nat} (hj : j < n) : (rngI j ++ (zeros n).drop j).set j (j : Int) = rngI (j + 1) ++ (zeros n).drop (j + 1) := by
 rw [List.set_append_right _ _ (by rw [rngI_len]; omega), rngI_len, Nat.sub_self, rngI_succ, List.append_assoc, List.drop_eq_getElem_cons (by rw [zeros_len]; exact hj)]
 rfl
theorem idRow_len {n j : Nat} (hj : j ≤ n) : (rngI j ++ (zeros n).drop j).length = n := by rw [List.length_append, rngI_len, List.length_drop, zeros_len]; omega
theorem idRow_all (n : Nat) : rngI n ++ (zeros n).drop n = rngI n := by
 rw [show (zeros n).drop n = [] from List.drop_of_length_le (by rw [zeros_len]; exact Nat.le_refl _), List.append_nil]
theorem identity_any (n : Nat) (hn : n ≤ 1000000) (w : World) :
    Calls Try.prog 84 #[.int .i64 n] w fun e w' => ∃ v, e = .returned v ∧ Own w' w.heap.size v (rngI n) ∧ Below w.heap.size w w' := by
 go_enter Try.func84, Try.ntmps84
 go_wp2_with (refine wpList_make_ints rfl (.tmp 5) (.tmp 5) rfl .i64 .i64 n rfl rfl hn ?_; intro w3 g3 o3 b3)
 have O3 := Lib.hid o3
 obtain ⟨_, _, e3, _, h3⟩ := o3.form
 have hin := h3 g3 rfl
 clear e3 h3 o3
 go_loopw [9] (fun i wr => ∃ (j : Nat), i = .int .i64 j ∧ j ≤ n ∧ Hid (Own wr w.heap.size (.slice (some ⟨g3, 0, none⟩) n n) (rngI j ++ (zeros n).drop j)) ∧ Below w.heap.size w wr) (fun i _ => n - (intOf i).toNat)
 case atStart => exact ⟨0, rfl, Nat.zero_le _, O3, b3⟩
 case round =>
  obtain ⟨j, rfl, hj, ho, hb⟩ := hrel
  by_cases hjn : j < n
  · have hc := ho.out.cell (j := j) (by rw [idRow_len hj]; exact hjn)
    have hf := ho.out.frozen j
    have hs := ho.out.set j (j : Int)
    rw [idRow_set hjn] at hs
    have HS := hide hs
    clear hs ho
    go_wp2_with fail
    go_roundw
    case rel => exact ⟨j + 1, by go_num, by omega, (unhide HS).1, hb.setCell (by show w.heap.size ≤ g3; omega) _⟩
    case measure => simp only [intOf]; omega
  · have hje : j = n := by omega
    have hso := ho.out
    rw [hje, idRow_all] at hso
    have HSO := hide hso
    clear hje hso ho
    go_wp2_with fail
    go_ret
    exact ⟨_, rfl, unhide HSO, hb⟩
theorem isOrder_any (a : Option Addr) (c : Nat) (p : List Int) (n : Nat) (hn : n ≤ 1000000) (w : World) (hx : Rd w a p) :
    Calls Try.prog 65 #[.slice a p.length c, .int .i64 n] w fun e w' => e = .returned (.bool (permOk p n)) ∧ Below w.heap.size w w' := by
 have hcl := cloneI_any a c p w hx
 have HCL := hide hcl
 have hid := fun W => identity_any n hn W
 have HID := hide hid
 have heq := permOk_eq p n
 have HEQ := Lib.hid heq
 have hlr := rngI_len n
 have hls := sortI_len p
 have HLR := Lib.hid hlr
 have HLS := Lib.hid hls
 clear hcl hid heq hlr hls hx
 go_enter Try.func65, Try.ntmps65
 go_wp2_with fail
 refine (unhide HCL).mono ?_
 rintro e w1 ⟨v1, rfl, o1, b1⟩
 have O1 := hide o1
 go_wp2_with fail
 refine (sortI_own (unhide O1)).mono ?_
 rintro e w2 ⟨rfl, o2, g2⟩
 have b2 := Below.step b1 g2 (unhide O1) (Nat.le_refl _) b1.size
 obtain ⟨a2, c2, rfl, r2, _⟩ := o2.form
 have R2 := hide r2
 clear o1 o2 g2 r2 O1
 go_wp2_with fail
 refine (unhide HID w2).mono ?_
 rintro e w3 ⟨v3, rfl, o3, b3⟩
 obtain ⟨a3, c3, rfl, r3, _⟩ := o3.form
 have hse := slicesEqual_any a2 a3 c2 c3 (sortI p) (rngI n) w3 ((unhide R2).below b3) r3
 rw [HEQ.out] at hse
 have HSE := hide hse
 have d3 := b2.trans (b3.mono b2.size)
 clear hse o3 r3
 go_wp2_with fail
 refine (unhide HSE).mono ?_
 rintro e w4 ⟨rfl, q4⟩
 go_wp2_with fail
 go_ret
 exact ⟨rfl, d3.trans (q4.below _)⟩
theorem boolRow_step {w : World} {g n i y : Nat} {p : List Int} (h : w.rowIs g 4 n (fun j => .bool (decide ((j : Int) ∈ p.take i)))) (hi : i < p.length) (hy : nth p i = (y : Int)) :
    (w.setCell ⟨g, y, none⟩ (.bool true)).rowIs g 4 n (fun j => .bool (decide ((j : Int) ∈ p.take (i + 1)))) := by
 obtain ⟨cc, q1, q2, q3⟩ := h.set y (.bool true)
 refine ⟨cc, q1, q2, fun j hj => (q3 j hj).trans ?_⟩
 rw [take_nth hi, hy]
 by_cases e : j = y
 · subst e
   simp
 · dsimp only
   rw [if_neg e]
   congr 2
   simp only [List.mem_append, List.mem_singleton, decide_eq_decide]
   constructor
   · exact .inl
   · rintro (h | h)
     · exact h
     · omega
theorem l21Perm_any (a : Option Addr) (c : Nat) (p : List Int) (n : Nat) (hn : n ≤ 1000000) (w : World) (hx : Rd w a p) :
    Calls Try.prog 63 #[.slice a p.length c, .int .i64 n] w fun e w' => e = .returned (.bool (permOk p n)) ∧ Below w.heap.size w w' := by
 have hxl := hx.len
 by_cases hl : p.length = n
 · have HX := hide hx
   have hmk := fun W => run_make_row' (P := Try.prog) 64 4 (.bool false) 1 Try.underlying64 Try.info_bool rfl .i64 .i64 n (by omega) (by omega) W
   have hne : ((p.length : Int) != (n : Int)) = false := by simp [hl]
   have HL := Lib.hid hl
   generalize hR : permOk p n = r
   have HR := Lib.hid hR
   have hw1 : IntKind.i64.wrap ((n : Int) - 1) = (n : Int) - 1 := IntWalk.i64_in _ (by omega)
   clear hx hl hR
   go_enter Try.func63, Try.ntmps63
   go_wp2_with fail
   go_loopw [6] (fun iv wr => ∃ i : Nat, iv = .int .i64 i ∧ i ≤ n ∧ Hid (wr.rowIs w.heap.size 4 n (fun j => .bool (decide ((j : Int) ∈ p.take i)))) ∧ Below w.heap.size w wr ∧ Hid (permTo p n i)) (fun iv _ => n - (intOf iv).toNat)
   case atStart =>
    refine ⟨0, rfl, Nat.zero_le _, ?_, (Below.refl _ _).alloc (Nat.le_refl _) _, permTo_zero p n⟩
    have h := World.rowIs_made w (.bool false) n 4
    obtain ⟨cc, q1, q2, q3⟩ := h
    exact ⟨cc, q1, q2, fun j hj => by rw [q3 j hj]; simp⟩
   case round =>
    obtain ⟨i, rfl, hi, ht, hb, hq⟩ := hrel
    have hsz := hb.size
    by_cases hil : i < n
    · have hip : i < p.length := by rw [HL.out]; exact hil
      obtain ⟨b1, o1, rfl, hbb, hcx⟩ := (unhide HX).at_ (by omega)
      obtain ⟨x, hxx⟩ : ∃ x, x = nth p i := ⟨_, rfl⟩
      have hx1 := (hb.cell (p := ⟨b1, o1 + i, none⟩) hbb).trans (hcx i hip)
      rw [← hxx] at hx1
      have hc1 := l00In_any x 0 ((n : Int) - 1) wr
      have HXX := Lib.hid hxx
      have rlt := ht.out.lt
      clear hcx hxx
      by_cases c1 : 0 ≤ x ∧ x ≤ (n : Int) - 1
      case neg =>
       rw [show inB x 0 ((n : Int) - 1) = false by unfold inB; rw [decide_eq_false_iff_not]; exact c1] at hc1
       have hno : r = false := by rw [← HR.out]; exact permOk_no hil (fun h => by have := ((permTo_succ hip).1 h).2.1; rw [← HXX.out] at this; omega)
       have HN := Lib.hid hno
       have HC1 := hide hc1
       clear c1 hc1 hno
       go_wp2_with fail
       refine (unhide HC1).mono ?_
       rintro e w5 ⟨rfl, rfl⟩
       go_wp2_with fail
       go_ret
       exact ⟨by rw [HN.out]; rfl, hb⟩
      rw [show inB x 0 ((n : Int) - 1) = true by unfold inB; exact decide_eq_true c1] at hc1
      have HC1 := hide hc1
      obtain ⟨y, rfl⟩ : ∃ z : Nat, x = (z : Int) := ⟨x.toNat, by omega⟩
      have hy : y < n := by omega
      have rc := ht.out.cell hy
      have rf := ht.out.frozen y
      clear hc1 c1
      by_cases hin : (y : Int) ∈ p.take i
      · rw [decide_eq_true hin] at rc
        have hno : r = false := by rw [← HR.out]; exact permOk_no hil (fun h => by have := ((permTo_succ hip).1 h).2.2; rw [← HXX.out] at this; exact this hin)
        have HN := Lib.hid hno
        clear hno hin
        go_wp2_with fail
        refine (unhide HC1).mono ?_
        rintro e w5 ⟨rfl, rfl⟩
        go_wp2_with fail
        go_ret
        exact ⟨by rw [HN.out]; rfl, hb⟩
      · rw [decide_eq_false hin] at rc
        have hst := boolRow_step ht.out hip HXX.out.symm
        have HST := hide hst
        have hok : permTo p n (i + 1) := (permTo_succ hip).2 ⟨hq.out, by rw [← HXX.out]; omega, by rw [← HXX.out]; exact hin⟩
        have HOK := hide hok
        clear hst hok hin ht
        go_wp2_with fail
        refine (unhide HC1).mono ?_
        rintro e w5 ⟨rfl, rfl⟩
        go_wp2_with fail
        go_roundw
        case rel => exact ⟨i + 1, by go_num, by omega, unhide HST, hb.setCell (Nat.le_refl _) _, unhide HOK⟩
        case measure => simp only [intOf]; omega
    · have hie : i = n := by omega
      have hyes : r = true := by rw [← HR.out, permOk_iff0]; exact ⟨HL.out, by have h := hq.out; rw [hie] at h; exact h⟩
      have HN := Lib.hid hyes
      clear hie hyes
      go_wp2_with fail
      go_ret
      exact ⟨by rw [HN.out]; rfl, hb⟩
 · have hne : ((p.length : Int) != (n : Int)) = true := by simp; omega
   have hno : permOk p n = false := by rw [← Bool.not_eq_true, permOk_iff0]; exact fun h => hl h.1
   have HN := Lib.hid hno
   clear hl hno hx
   go_enter Try.func63, Try.ntmps63
   go_wp2_with fail
   go_ret
   exact ⟨by rw [HN.out]; rfl, Below.refl _ _⟩
end Go.Proofs.Ytohghnoihbjmcaa
