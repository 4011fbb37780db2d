/-
  Texts joined.
-/
import Derived.Lib.Join
import Derived.Test.YtgfcbmflnldicaaDoorGT2
import Derived.Test.YtgfcbmflnldicaaDoorGT6
set_option linter.unusedVariables false
set_option linter.unusedSimpArgs false
set_option maxRecDepth 100000
set_option maxHeartbeats 40000000
namespace Go.Proofs.YtgfcbmflnldicaaDoor
open Go.RowKit
attribute [local go_sem ↓] Go.wp_at_zero Go.wp_at_succ
theorem join_snoc (sep t : List UInt8) : ∀ ts : List (List UInt8), 0 < ts.length → Lib.join (ts ++ [t]) sep = Lib.join ts sep ++ sep ++ t
 | [], h => by simp at h
 | x :: r, _ => by
  rw [List.cons_append, Lib.join_cons, Lib.join_cons]
  simp [Lib.joinTail]
def nthB (L : List (List UInt8)) (i : Nat) : List UInt8 := L.getD i []
def tx (L : List (List UInt8)) (i : Nat) : List UInt8 := Lib.join (L.take i) [44]
theorem tx_zero (L : List (List UInt8)) : tx L 0 = [] := rfl
theorem tx_all (L : List (List UInt8)) : tx L L.length = Lib.join L [44] := by rw [tx, List.take_length]
theorem take_snoc {L : List (List UInt8)} {i : Nat} (h : i < L.length) : L.take (i + 1) = L.take i ++ [nthB L i] := by
 rw [List.take_add_one, List.getElem?_eq_getElem h, nthB, List.getD_eq_getElem?_getD, List.getElem?_eq_getElem h]
 rfl
theorem tx_one {L : List (List UInt8)} (h : 0 < L.length) : tx L 1 = nthB L 0 := by
 rw [tx, take_snoc h, List.take_zero, List.nil_append, Lib.join_one]
theorem tx_step {L : List (List UInt8)} {i : Nat} (h : i < L.length) (h0 : 0 < i) : tx L (i + 1) = tx L i ++ [44] ++ nthB L i := by
 rw [tx, take_snoc h, join_snoc _ _ _ (by rw [List.length_take]; omega)]
 rfl
theorem tx_len {L : List (List UInt8)} {k : Nat} (hk : ∀ t ∈ L, t.length ≤ k) : ∀ i, i ≤ L.length → (tx L i).length ≤ i * (k + 1)
 | 0, _ => by simp [tx_zero]
 | i + 1, h => by
  have ih := tx_len hk i (by omega)
  have h1 : (nthB L i).length ≤ k := by
   rw [nthB, List.getD_eq_getElem?_getD, List.getElem?_eq_getElem (by omega)]
   exact hk _ (List.getElem_mem _)
  rcases Nat.eq_zero_or_pos i with e | e
  · subst e; rw [tx_one (by omega)]; omega
  · rw [tx_step (by omega) e, Nat.add_mul, List.length_append, List.length_append]; simp only [List.length_cons, List.length_nil]; omega
theorem ba_app (x y : List UInt8) : (⟨x.toArray⟩ : ByteArray) ++ ⟨y.toArray⟩ = ⟨(x ++ y).toArray⟩ := by
 apply ByteArray.ext
 simp [ByteArray.data_append]
theorem ba_app1 (x : List UInt8) (b : UInt8) : (⟨x.toArray⟩ : ByteArray) ++ ⟨#[b]⟩ = ⟨(x ++ [b]).toArray⟩ := ba_app x [b]
def lp (xs : List Int) : List (List UInt8) := xs.map fun x => Lib.decDigits x.toNat
def textL (xs : List Int) : List UInt8 := if xs = [] then [45] else Lib.join (lp xs) [44]
theorem lp_len (xs : List Int) : (lp xs).length = xs.length := List.length_map _
theorem lp_nth {xs : List Int} {i : Nat} (h : i < xs.length) : nthB (lp xs) i = Lib.decDigits (nth xs i).toNat := by
 rw [nthB, lp, List.getD_eq_getElem?_getD, List.getElem?_map, List.getElem?_eq_getElem h, nth_lt h]
 rfl
theorem color_in {xs : List Int} (h : colorsOk xs = true) {i : Nat} (hi : i < xs.length) : ∃ n : Nat, nth xs i = (n : Int) ∧ n < 64 := by
 unfold colorsOk at h
 rw [Bool.and_eq_true, Bool.not_eq_true', List.any_eq_false] at h
 have h1 := h.2 _ (nth_mem hi)
 simp [notColor, colorOk, inB] at h1
 exact ⟨(nth xs i).toNat, by omega, by omega⟩
theorem lp_small {xs : List Int} (h : colorsOk xs = true) : ∀ t ∈ lp xs, t.length ≤ 2 := by
 intro t ht
 obtain ⟨x, hx, rfl⟩ := List.mem_map.1 ht
 unfold colorsOk at h
 rw [Bool.and_eq_true, Bool.not_eq_true', List.any_eq_false] at h
 have h1 := h.2 _ hx
 simp [notColor, colorOk, inB] at h1
 exact dec_len (by omega)
theorem specLT_any (a : Option Addr) (c : Nat) (xs : List Int) (w : World) (hx : Rd w a xs) (hc : colorsOk xs = true) :
    Calls Tryd.prog 24 #[.slice a xs.length c] w fun e w' => e = .returned (.string ⟨(textL xs).toArray⟩) ∧ Below w.heap.size w w' := by
 have hl : xs.length ≤ 64 := by unfold colorsOk at hc; rw [Bool.and_eq_true, decide_eq_true_eq] at hc; exact hc.1
 have HX := hide hx
 have HC := Lib.hid hc
 have HLP := Lib.hid (lp_len xs)
 by_cases h0 : xs.length = 0
 · have hxs : xs = [] := List.eq_nil_of_length_eq_zero h0
   clear HX HC HLP hx hc
   rw [h0]
   subst hxs
   go_enter Tryd.func24, Tryd.ntmps24
   go_wp2
   go_ret
   exact ⟨rfl, Below.refl _ _⟩
 · have h1 : 0 < xs.length := by omega
   have q0 : ((xs.length : Int) == 0) = false := by rw [beq_eq_false_iff_ne]; omega
   clear hx hc h0
   go_enter Tryd.func24, Tryd.ntmps24
   go_wp2_with fail
   go_loopw [3, 4] (fun sv iv wr => ∃ i : Nat, iv = .int .i64 i ∧ i ≤ xs.length ∧ sv = .string ⟨(tx (lp xs) i).toArray⟩ ∧ Below w.heap.size w wr) (fun _ iv _ => xs.length - (intOf iv).toNat)
   case atStart => exact ⟨0, rfl, Nat.zero_le _, rfl, Below.refl _ _⟩
   case round =>
    obtain ⟨i, rfl, hi, rfl, hb⟩ := hrel
    rename World => wo
    have hTl := tx_len (lp_small HC.out) i (by rw [HLP.out]; exact hi)
    obtain ⟨T, hT⟩ : ∃ T, T = tx (lp xs) i := ⟨_, rfl⟩
    rw [← hT] at hTl
    rw [← hT]
    by_cases hil : i < xs.length
    · obtain ⟨b, o, rfl, hbb, hcc⟩ := (unhide HX).at_ h1
      obtain ⟨n, hn, hn64⟩ := color_in HC.out hil
      have cx := (hb.cell (p := ⟨b, o + i, none⟩) hbb).trans (hcc i hil)
      rw [hn] at cx
      have hin := l00In_any (n : Int) (-999999999) 999999999 wo
      rw [show inB (n : Int) (-999999999) 999999999 = true by simp [inB]; omega] at hin
      have HIN := hide hin
      have HD := hide (specDec_any n (by omega) wo)
      have HLN := Lib.hid ((lp_nth hil).trans (by rw [hn, Int.toNat_natCast]))
      have HT := Lib.hid hT
      have hdl := dec_len (n := n) (by omega)
      have z1 : ¬ 9223372036854775807 < T.length + 1 := by omega
      have z2 : ¬ 9223372036854775807 < T.length + 1 + (Lib.decDigits n).length := by omega
      have z3 : ¬ 9223372036854775807 < T.length + (Lib.decDigits n).length := by omega
      have z4 : ¬ 9223372036854775807 < T.length + (1 + (Lib.decDigits n).length) := by omega
      clear hcc hin hT hn hTl hdl
      go_wp2_with fail
      refine (unhide HIN).mono ?_
      rintro e w1 ⟨rfl, rfl⟩
      by_cases hi0 : 0 < i
      · have g1 : (0 : Int) < (i : Int) := by omega
        have HS := Lib.hid (tx_step (L := lp xs) (by rw [HLP.out]; exact hil) hi0)
        go_wp2_with fail
        refine (unhide HD).mono ?_
        rintro e w2 ⟨rfl, b2⟩
        have hE : ((⟨T.toArray⟩ : ByteArray) ++ ⟨#[44]⟩) ++ ⟨(Lib.decDigits n).toArray⟩ = ⟨(tx (lp xs) (i + 1)).toArray⟩ := by
         rw [ba_app1, ba_app, HS.out, HLN.out, HT.out]
        have HEE := Lib.hid hE
        clear hE
        go_wp2_with fail
        go_roundw
        case rel => exact ⟨i + 1, by go_num, by omega, by rw [← HEE.out], hb.trans (b2.mono hb.size)⟩
        case measure => simp only [intOf]; omega
      · have g1 : ¬ (0 : Int) < (i : Int) := by omega
        obtain rfl : i = 0 := by omega
        have cx0 := cx
        rw [Nat.add_zero] at cx0
        have HS := Lib.hid (tx_one (L := lp xs) (by rw [HLP.out]; exact h1))
        go_wp2_with fail
        refine (unhide HD).mono ?_
        rintro e w2 ⟨rfl, b2⟩
        have hE : (⟨T.toArray⟩ : ByteArray) ++ ⟨(Lib.decDigits n).toArray⟩ = ⟨(tx (lp xs) (0 + 1)).toArray⟩ := by
         rw [ba_app, HS.out, HLN.out, HT.out, tx_zero, List.nil_append]
        have HEE := Lib.hid hE
        clear hE
        go_wp2_with fail
        go_roundw
        case rel => exact ⟨0 + 1, by go_num, by omega, by rw [← HEE.out], hb.trans (b2.mono hb.size)⟩
        case measure => simp only [intOf]; omega
    · obtain rfl : i = xs.length := by omega
      have hne : xs ≠ [] := by intro e; rw [e] at h1; simp at h1
      have hR : T = textL xs := by rw [hT, ← HLP.out, tx_all, textL, if_neg hne]
      have HR := Lib.hid hR
      clear hR hT hne
      go_wp2_with fail
      go_ret
      exact ⟨by rw [← HR.out]; rfl, hb⟩
end Go.Proofs.YtgfcbmflnldicaaDoor
