/-
  Walks of the laws' helpers over lists of lists: szInt64SS, toInt64SS.
-/
import Derived.Test.YtkbppgpegljcoaaEq
namespace Go.Proofs.Ytkbppgpegljcoaa
open Go.RowKit

def total (ls : List Nat) : Nat := ls.length + ls.sum
theorem sum_take_succ (ls : List Nat) {k : Nat} (hk : k < ls.length) : (ls.take (k + 1)).sum = (ls.take k).sum + ls.getD k 0 := by
  rw [List.take_add_one, List.getElem?_eq_getElem hk, List.sum_append]; simp [hk]
theorem sum_take_le (ls : List Nat) (k : Nat) : (ls.take k).sum ≤ ls.sum := by
  conv => rhs; rw [← List.take_append_drop k ls, List.sum_append]
  omega

set_option maxHeartbeats 400000 in
theorem szInt64SS_any (a : Option Addr) (c : Nat) (ls : List Nat) (k : Int) (w : World) (hx : Lens w a ls) (hk0 : 0 ≤ k) (hk1 : k ≤ 1048576) :
    Calls Try.prog 35 #[.slice a ls.length c, .int .i64 k] w fun e w' => e = .returned (.int .i64 (left k (total ls))) ∧ w = w' := by
  obtain ⟨hm, hms, hx⟩ := hx
  unfold maxLen at hm hms
  by_cases h0 : (ls.length : Int) ≤ k
  · go_enter Try.func35, Try.ntmps35
    go_wp2
    go_loop [1, 5] (fun kv i => ∃ (j : Nat), i = .int .i64 j ∧ j ≤ ls.length ∧ ((ls.length + (ls.take j).sum : Nat) : Int) ≤ k ∧ kv = .int .i64 (k - ((ls.length + (ls.take j).sum : Nat) : Int))) (fun _ i => ls.length - (intOf i).toNat)
    case atStart => exact ⟨0, rfl, by omega, by simpa using h0, by simp⟩
    case round =>
      obtain ⟨j, rfl, hj, hle, rfl⟩ := hrel
      by_cases hjl : j < ls.length
      · obtain ⟨b1, o1, rfl, hc⟩ := hx (by omega)
        obtain ⟨ai, ci, hc1⟩ := hc j hjl
        have hmj := hms (ls.getD j 0) (by simp [hjl])
        have hst := sum_take_succ ls hjl
        have hsl := sum_take_le ls (j + 1)
        generalize ls.getD j 0 = m at hc1 hmj hst
        generalize hS : (ls.take j).sum = S at hle hst
        have HST := Lib.hid hst
        have HS := Lib.hid hS
        clear hx hc hst hS hms
        go_wp2_with fail
        refine (szInt64S_any ai m ci (k - ((ls.length + S : Nat) : Int)) w (by unfold maxLen; omega) (by omega) (by omega)).mono ?_
        rintro e w1 ⟨rfl, rfl⟩
        by_cases hb : (m : Int) ≤ k - ((ls.length + S : Nat) : Int)
        · rw [left_yes hb]
          go_wp2
          go_round
          case rel => exact ⟨j + 1, by go_num, by omega, by rw [HST.out]; omega, by rw [HST.out]; congr 1; omega⟩
          case measure => simp [intOf]; omega
        · rw [left_no hb]
          go_wp2
          go_ret
          exact ⟨ret_int (left_no (by have := HST.out; unfold total; omega)).symm, rfl⟩
      · clear hx hms
        go_wp2
        go_ret
        obtain rfl : j = ls.length := by omega
        rw [List.take_length] at hle
        refine ⟨ret_int ?_, rfl⟩
        rw [left_yes (by unfold total; exact hle)]
        unfold total
        simp
  · have hn : ¬ ((total ls : Nat) : Int) ≤ k := by unfold total; omega
    rw [left_no hn]
    clear hx hms
    go_enter Try.func35, Try.ntmps35
    go_wp2
    go_ret
    exact ⟨rfl, rfl⟩

set_option maxHeartbeats 400000 in
theorem toInt64SS_any (a : Option Addr) (c : Nat) (xss : List (List Int)) (w : World) (hx : RdS w a xss) :
    Calls Try.prog 38 #[.slice a xss.length c] w fun e w' => ∃ v, e = .returned v ∧ OwnS w' w.heap.size v xss ∧ Below w.heap.size w w' := by
  have hxl := hx.len
  have hmk := fun W => run_make_row' (P := Try.prog) 36 25 (.slice none 0 0) 24 Try.underlying36 Try.info_row rfl .i64 .i64 xss.length (by omega) (by omega) W
  go_enter Try.func38, Try.ntmps38
  go_wp2
  go_loopw [4] (fun i wr => ∃ (k : Nat) (vs : List Value), i = .int .i64 k ∧ k ≤ xss.length ∧ wr.rowIs w.heap.size 25 xss.length (fun j => (vs[j]?).getD (.slice none 0 0)) ∧ Hid (Inner wr (w.heap.size + 1) vs (xss.take k)) ∧ Below w.heap.size w wr) (fun i _ => xss.length - (intOf i).toNat)
  case atStart => exact ⟨0, [], rfl, by omega, (World.rowIs_made w _ _ _).congr (fun i _ => by simp), show Inner _ _ _ _ by simpa using Inner.nil _ _, (Below.refl _ _).alloc (Nat.le_refl _) _⟩
  case round =>
    obtain ⟨k, vs, rfl, hk, hrow, hin, hb⟩ := hrel
    by_cases hkl : k < xss.length
    · obtain ⟨b1, o1, rfl, hb1, hcx⟩ := hx.at_ (by omega)
      obtain ⟨ai, ci, hx0, rx⟩ := hcx k hkl
      have hx1 := (hb.cell (p := ⟨b1, o1 + k, none⟩) hb1).trans hx0
      have rx1 := rx.below hb
      have hvl := hin.out.1
      rw [List.length_take] at hvl
      have HV := Lib.hid hvl
      have hlt := hrow.lt
      have HR := Lib.hid hrow
      clear hcx hx hrow hmk hx0 rx hvl
      go_wp2_with fail
      refine (toInt64S_any _ _ _ _ rx1).mono ?_
      rintro e w1 ⟨v1, rfl, o1', b1'⟩
      obtain ⟨a1, c1, rfl, _, _⟩ := o1'.form
      have hr1 : w1.rowIs w.heap.size 25 xss.length (fun j => (vs[j]?).getD (.slice none 0 0)) := HR.out.of_block (b1'.block _ hlt)
      obtain ⟨u, hc1⟩ : ∃ u, w1.cell? ⟨w.heap.size, k, none⟩ = some u := ⟨_, hr1.cell hkl⟩
      have hf1 := hr1.frozen k
      have HR1 := Lib.hid hr1
      have HI := Lib.hid (hin.out.push b1' (by omega) o1')
      clear hr1
      go_wp2
      go_roundw
      case rel =>
        have hvk : vs.length = k := by have := HV.out; omega
        refine ⟨k + 1, vs ++ [Value.slice a1 (nthL xss k).length c1], by go_num, by omega, (HR1.out.set k _).congr (fun i hi => ?_), ?_, (hb.trans (b1'.mono (by omega))).setCell (Nat.le_refl _) _⟩
        · by_cases h1 : i = k
          · subst h1; simp [← hvk]
          · by_cases h2 : i < k
            · simp [h1, List.getElem?_append_left (show i < vs.length by omega)]
            · simp [h1, List.getElem?_eq_none (show (vs ++ [Value.slice a1 (nthL xss k).length c1]).length ≤ i by rw [List.length_append]; show _ + 1 ≤ i; omega), List.getElem?_eq_none (show vs.length ≤ i by omega)]
        · rw [take_nthL hkl]
          exact HI.out.storeBelow (by show w.heap.size < w.heap.size + 1; omega) _
      case measure => simp [intOf]; omega
    · have hvl := hin.out.1
      obtain rfl : k = xss.length := by omega
      rw [List.length_take] at hvl
      have HV := Lib.hid hvl
      have HR := Lib.hid hrow
      clear hrow hvl
      go_wp2
      go_ret
      have hi := hin.out
      rw [List.take_length] at hi
      refine ⟨_, rfl, OwnS.of_rowIs HR.out (Nat.le_refl _) rfl hxl (fun i hi => ?_) (hi.mono (by omega)), hb⟩
      have := HV.out
      rw [List.getElem?_eq_getElem (by omega)]; rfl
end Go.Proofs.Ytkbppgpegljcoaa
